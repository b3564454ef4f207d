import Derived.StillTail
import Derived.Deep.Quiet
import Derived.Scope
import Derived.Test.YtohmomanmikphaaGreatDoorPl04
set_option linter.unusedSimpArgs false
set_option linter.unusedVariables false
set_option maxRecDepth 100000
section
namespace Go.Aw
open Go.RowKit
section
variable{P:Program}{ops:Array Oper}{md:Region.Mode}{C:World->Prop}{R:World->World->Prop}{Q':Exit->Act->World->Prop}
def Jk(P:Program)(K:Value->World->Prop):Result Next->Prop
 | .ok (.value v) w'=>K v w'
 | .ok .skip w'=>K undef w'
 | .ok (.enter f args) w'=>Calls P f args w' fun e w''=>∃v,e=.returned v/\K v w''
 | .ok (.row row args) w'=>Rows P row args w' K
 | _=>False
def gAt(P:Program)(o:Oper)(a:Act)(w:World)(K:Value->World->Prop):Prop:=Jk P K ((execOp a.eval o).run P w)
def gOp(P:Program)(ops:Array Oper)(i:Nat)(K:Act->World->Prop)(a:Act)(w:World):Prop:=
 match ops[i]? with
 | none=>False
 | some o=>if Region.wanted o (yielded ops a.tmps)=true then gAt P o a w (fun v w'=>K (a.put o.dst v) w')else K (a.put o.dst undef) w
theorem oZ{K K':Value->World->Prop}(h:∀v w,K v w->K' v w){r:Result Next}(E:Jk P K r):Jk P K' r:=by
 cases r with
 | ok n w'=>
   cases n <;> simp only[Jk]at E |-
   case value u=>exact h _ _ E
   case skip=>exact h _ _ E
   case enter f args=>exact E.mono fun e F ⟨v,I,J⟩=>⟨v,I,h _ _ J⟩
   case row row args=>exact E.mono h
 | halt x w'=>simp only[Jk]at E
theorem E4{i:Nat}{a:Act}{w:World}{K K':Act->World->Prop}(h:∀a w,K a w->K' a w)(u:gOp P ops i K a w):gOp P ops i K' a w:=by
 unfold gOp at *;split
 . rename_i E;simp only[E]at u
 . rename_i o E
   simp only[E]at u;split
   . rename_i F;rw[if_pos F]at u;exact oZ (fun v w' I=>h _ _ I) u
   . rename_i F;rw[if_neg F]at u;exact h _ _ u
theorem TO{o:Oper}{a:Act}{w:World}{K:Act->World->Prop}(h:gAt P o a w (fun v w'=>K (a.put o.dst v) w')):o.wp P a w K Q':=by
 unfold Oper.wp;unfold gAt at h;generalize (execOp a.eval o).run P w=r at *;cases r with
 | ok n w'=>
   cases n <;> simp only[Jk]at h <;> simp only[Oper.upon]
   case value u=>exact h
   case skip=>exact h
   case enter f args=>exact h.mono fun e E ⟨v,F,I⟩=>by subst F;exact I
   case row row args=>exact h
 | halt x w'=>simp only[Jk]at h
theorem Mz{i:Nat}{a:Act}{w:World}{K:Act->World->Prop}(h:gOp P ops i K a w):wpOp P ops Q' i K a w:=by
 unfold gOp at h;unfold wpOp;split
 . rename_i u;simp only[u]at h
 . rename_i o u
   simp only[u]at h;split
   . rename_i E;rw[if_pos E]at h;exact .inl (TO h)
   . rename_i E;rw[if_neg E]at h;exact h
theorem Kg{o:Oper}{a:Act}{w:World}{v:Value}{D:World->Prop}(I:D w)(h:o.quietAt P a D w v):gAt P o a w (fun u w'=>u=v/\D w'):=by
 unfold Oper.quietAt at h;unfold gAt;generalize (execOp a.eval o).run P w=r at *;cases r with
 | ok n w'=>
   cases n <;> simp only[Oper.quietUpon]at h <;> simp only[Jk]
   case value u=>obtain⟨E,F⟩:=h;rw[E];exact⟨F,I⟩
   case skip=>obtain⟨E,F⟩:=h;rw[E];exact⟨F.symm,I⟩
   case enter f args=>obtain⟨E,M⟩:=h;rw[E];exact M.mono fun e O ⟨T,J⟩=>⟨v,T,rfl,J⟩
 | halt x w'=>simp only[Oper.quietUpon]at h
def iP(P:Program)(md:Region.Mode)(ops:Array Oper)(C:World->Prop)(R:World->World->Prop)(Q':Exit->Act->World->Prop):Nat->Array Bool->Act->World->Prop
 | 0,listed,a,w=>Region.ready md ops listed=[]/\Q' .normal a w
 | f+1,listed,a,w=>Region.ready md ops listed≠[] /\
   ∀i∈Region.ready md ops listed,gOp P ops i (fun a' w'=>C w'/\∀w2,R w' w2->iP P md ops C R Q' f (listed.setIfInBounds i true) a' w2) a w
theorem rM(u:∀w,R w w):∀(f:Nat) (listed:Array Bool) (a:Act) (w:World),iP P md ops C R Q' f listed a w->wpAny P md ops Q' f listed a w
 | 0,_,_,_,h=>h
 | f+1,_,_,_,h=>⟨fun h0=>absurd h0 h.1,fun i E=>Mz (E4 (fun I w' F=>rM u f _ _ _ (F.2 w' (u w'))) (h.2 i E))⟩
def YQ(P:Program)(ops:Array Oper)(C:World->Prop)(R:World->World->Prop)(o:Oper)(v:Value)(a:Act):Prop:=
 (Region.wanted o (yielded ops a.tmps)=true/\∀w,C w->o.quietAt P a (R w) w v)\/(Region.wanted o (yielded ops a.tmps)=false/\v=undef)
theorem YQ.of_same{o:Oper}{v:Value}{a u:Act}(E:YQ P ops C R o v a)(I:execOp u.eval o=execOp a.eval o)
   (F:Region.wanted o (yielded ops u.tmps)=Region.wanted o (yielded ops a.tmps)):YQ P ops C R o v u:=by
 unfold YQ Oper.quietAt at *;rw[I,F];exact E
theorem aaM{j:Nat}{E F:Oper}{v:Value}(hj:ops[j]?=some F)(O:E.apart ops F=true)
   (I:∀cs b,E.op≠.select cs b) (M:∀cs b,F.op≠.select cs b) {K:Act->World->Prop} {a:Act} {w:World}
   (hy:YQ P ops C R E v a) (h:gOp P ops j K (a.put E.dst v) w):
   gOp P ops j (fun a' w'=>YQ P ops C R E v a'/\K (a'.put E.dst v) w') a w:=by
 obtain⟨h1,T,Z⟩:=Oper.apart_spec O;have keep:∀u,YQ P ops C R E v (a.put F.dst u):=fun u=>
   hy.of_same (execOp_put E I a F.dst u Z) (wanted_put E a F.dst u Z)
 unfold gOp at *;simp only[hj]at *;rw[wanted_put F a E.dst v h1]at h;split
 . rename_i J
   rw[if_pos J]at h;unfold gAt at *;rw[execOp_put F M a E.dst v h1]at h;exact oZ (fun u w' hk=>⟨keep u,by rw[<-Act.put_comm a v u T];exact hk⟩) h
 . rename_i J
   rw[if_neg J]at h;exact⟨keep _,by rw[<-Act.put_comm a v undef T];exact h⟩
theorem HV{i:Nat}{F:Oper}{v:Value}{a:Act}{w:World}(T:ops[i]?=some F)(Z:C w)(I:∀w,R w w)(M:YQ P ops C R F v a){K:Act->World->Prop}(h:∀w',R w w'->K (a.put F.dst v) w'):
   gOp P ops i K a w:=by
 unfold gOp;simp only[T];rcases M with⟨E,O⟩|⟨E,rfl⟩
 . rw[if_pos E]
   exact oZ (fun u w' ⟨e,J⟩=>by subst e;exact h w' J) (Kg (I w) (O w Z))
 . rw[if_neg (by simp[E])]
   exact h w (I w)
theorem iW{i:Nat}{oi:Oper}{v:Value}(hi:ops[i]?=some oi)(O:∀(j:Nat) (o:Oper) cs b,ops[j]?=some o->o.op≠.select cs b)
   (hR:∀w,R w w) (hT:∀w w' ag,R w w'->R w' ag->R w ag) (aa:∀w w',C w->R w w'->C w'):
   ∀(f:Nat) (u:Array Bool) (a:Act) (w:World),C w ->
     (∀j oj,ops[j]?=some oj->j≠i->u.getD j true=false->(∀e∈oj.after,Region.binds md e=true->e.on≠i)->oi.apart ops oj=true) ->
     i∈Region.ready md ops u->YQ P ops C R oi v a ->
     (∀Z,R w Z->iP P md ops C R Q' f (u.setIfInBounds i true) (a.put oi.dst v) Z)->iP P md ops C R Q' (f+1) u a w:=by
 intro f;induction f with
 | zero=>
   intro u a w hC _ hr hy H;refine⟨fun h=>(by rw[h]at hr;cases hr),fun j hj=>?_⟩;by_cases E:j=i
   . subst E;exact HV hi hC hR hy fun w' I=>⟨aa _ _ hC I,fun Z T=>H Z (hT _ _ _ I T)⟩
   . have:=ready_mono hj E
     rw[(H w (hR w)).1]at this;cases this
 | succ f ih=>
   intro u a w hC F hr hy H;refine⟨fun h=>(by rw[h]at hr;cases hr),fun j hj=>?_⟩;by_cases E:j=i
   . subst E;exact HV hi hC hR hy fun w' I=>⟨aa _ _ hC I,fun Z T=>H Z (hT _ _ _ I T)⟩
   . have h1:=(H w (hR w)).2 j (ready_mono hj E)
     obtain⟨M,oj,ab,ad⟩:=mem_ready.1 hj;have af:∀e∈oj.after,Region.binds md e=true->e.on≠i:=fun e he hb ai=>by
       have h1:=ad e he hb;have h0:=(mem_ready.1 hr).1;rw[ai]at h1;rcases Nat.lt_or_ge i u.size with h'|h'
       . simp[h']at h0 h1;rw[h0]at h1;cases h1
       . simp[Array.getElem?_eq_none h']at h1
     have T:=aaM ab (F j oj ab E M af) (fun cs b=>O i oi cs b hi) (fun cs b=>O j oj cs b ab) hy h1;have J : ∀ k ok, ops[k]? = some ok -> k ≠ i -> (u.setIfInBounds j true).getD k true = false ->
         (∀e∈ok.after,Region.binds md e=true->e.on≠i)->oi.apart ops ok=true:=fun k ok hk ak ae aj=>by
       refine F k ok hk ak ?_ aj;by_cases ah:j=k
       . subst ah;exact M
       . rw[getD_set_ne true ah]at ae;exact ae
     refine E4 (fun a' w' ⟨al,ac,hk⟩=>⟨ac,fun Z T=>ih (u.setIfInBounds j true) a' Z (aa _ _ ac T) J (ready_mono hr (Ne.symm E)) al fun w3 h3=>?_⟩) T;rw[Array.setIfInBounds_comm _ _ E];exact hk w3 (hT _ _ _ T h3)
end
def Rw(w w':World):Prop:=w'.os=w.os/\w'.tape=w.tape/\w'.output=w.output/\w.heap.size<=w'.heap.size/\∀k,k<w.heap.size->w'.heap[k]?=w.heap[k]?
theorem Rw.refl(w:World):Rw w w:=⟨rfl,rfl,rfl,Nat.le_refl _,fun _ _=>rfl⟩
theorem Rw.trans{w w' E:World}(h:Rw w w')(u:Rw w' E):Rw w E:=
 ⟨u.1.trans h.1,u.2.1.trans h.2.1,u.2.2.1.trans h.2.2.1,Nat.le_trans h.2.2.2.1 u.2.2.2.1,fun k F=>(u.2.2.2.2 k (Nat.lt_of_lt_of_le F h.2.2.2.1)).trans (h.2.2.2.2 k F)⟩
def Cb(S:Sg)(wb w:World):Prop:=w.os=wb.os/\w.tape=wb.tape/\w.output=wb.output/\wb.heap.size<=w.heap.size/\∀k,S.fz k->w.heap[k]?=wb.heap[k]?
theorem Cb.rw{S:Sg}{wb w w':World}{H:aH}(F:St S wb H)(h:Cb S wb w)(u:Rw w w'):Cb S wb w':=
 ⟨u.1.trans h.1,u.2.1.trans h.2.1,u.2.2.1.trans h.2.2.1,Nat.le_trans h.2.2.2.1 u.2.2.2.1,fun k E=>(u.2.2.2.2 k (Nat.lt_of_lt_of_le (F.fz_lt k E) h.2.2.2.1)).trans (h.2.2.2.2 k E)⟩
theorem Rw.cb{S:Sg}{wb w:World}{H:aH}(u:St S wb H)(h:Rw wb w):Cb S wb w:=⟨h.1,h.2.1,h.2.2.1,h.2.2.2.1,fun k E=>h.2.2.2.2 k (u.fz_lt k E)⟩
theorem Cb.st{S:Sg}{wb w:World}{H:aH}(E:St S wb H)(h:Cb S wb w):St S w bY:=
 ⟨E.ro_fz,fun k u=>Nat.lt_of_lt_of_le (E.fz_lt k u) h.2.2.2.1,fun k r u=>by simp[bY]at u,fun k r u=>by simp[bY]at u,fun k k' r r' u=>by simp[bY]at u,E.tabs.keep S.le_refl (fun k u=>h.2.2.2.2 k (E.ro_fz k u))⟩
theorem Cb.kept{S:Sg}{wb w:World}{H:aH}(u:St S wb H)(h:Cb S wb w):fG S wb w:=fun k E=>h.2.2.2.2 k (u.ro_fz k E)
theorem Cb.agree{S:Sg}{wb w:World}{H:aH}(u:St S wb H)(h:Cb S wb w):Agree S bY wb w:=⟨h.kept u,fun k r E=>by simp[bY]at E⟩
theorem Grow.cb{S S':Sg}{wb w:World}(h:Grow S wb S' w):Cb S wb w:=⟨h.os,h.tape,h.output,h.size,h.same⟩
section
variable{P:Program}{n:Nat}{S0:Sg}{w0:World}{H0:aH}{mt:Nat->Bool}{ops:Array Oper}{K:Env->aH->Prop}{ρ:Env}{H:aH}{a:Act}{w:World}
theorem Rel.rw{w':World}(h:Rel n S0 w0 H0 ρ H a w)(u:Rw w w'):Rel n S0 w0 H0 ρ H a w':=by
 obtain⟨S,E,I,O,T,M,J⟩:=h;have F:=E.grow u.1 u.2.1 u.2.2.1 u.2.2.2.1 u.2.2.2.2;exact⟨S,E.after u.2.2.2.1 u.2.2.2.2,I.keep S.le_refl (F.kept E),O.trans F,T,M,J⟩
theorem zA{o:Oper}{K':Act->World->Prop}(F:∀a w,K' a w->a.defers=[])(h:o.wp P a w K' fun _ _ _=>False):gAt P o a w fun v w'=>K' (a.put o.dst v) w':=by
 unfold Oper.wp at h;unfold gAt;generalize (execOp a.eval o).run P w=r at *;cases r with
 | ok m w'=>
   cases m <;> simp only[Oper.upon]at h <;> simp only[Jk]
   case value u=>exact h
   case skip=>exact h
   case enter f args=>
     refine h.mono fun e I E=>?_
     cases e
     case returned v=>exact⟨v,rfl,E⟩
     case panicked c=>exact E.elim
     case outgrown=>obtain⟨_,_,h⟩:=E;exact h.elim
   case defer d=>have:=F _ _ h;rw[mM]at this;simp at this
   case row row args=>exact h
 | halt x w'=>cases x <;> simp only[Oper.upon]at h
variable{S:Sg}
theorem vC{o:Oper}{w1:World}{CC:World->Prop}(F:∀w,CC w->St S w H/\Agree S H w1 w)(hS:St S w1 H)(Z:FR S w1 ρ a)(hn:a.tmps.size=n)(hb:∀x∈o.op.operands,opB n x=true){G:Option Bool}
   (u:Region.wanted o (yielded ops a.tmps)=true↔gt G) (h:gK P G ρ H o.op fun x=>K (upd ρ o.dst (wr G x)) H):
   ∃z,K (upd ρ o.dst z) H/\(Region.wanted o (yielded ops a.tmps)=true->∃v,rep S w1 z v/\∀w,CC w->o.quietAt P a (Rw w) w v)/\(Region.wanted o (yielded ops a.tmps)=false->rep S w1 z undef):=by
 obtain⟨z,O,M⟩:=DI (hn▸hb) Z hS.rows h;refine⟨_,O,fun E=>?_,fun E=>?_⟩
 . obtain⟨v,T,I⟩:=M (u.1 E)
   refine⟨v,fC (u.1 E) T,fun w J=>?_⟩;unfold Oper.quietAt;rw[I w (F w J).2 o rfl];exact⟨rfl,rfl⟩
 . exact eN fun h=>by rw[u.2 h]at E;simp at E
theorem NW{o:Oper}{c:Call}{w1:World}{CC:World->Prop}(ac:∀w,CC w->St S w H/\Agree S H w1 w)(hS:St S w1 H)(hF:FR S w1 ρ a)(hn:a.tmps.size=n)(ho:o.op=.call c)(hb:∀x∈o.op.operands,opB n x=true){G:Option Bool}
   (O:Region.wanted o (yielded ops a.tmps)=true↔gt G) {nl:Bool} (h:Bk P (bA P) (dN P) nl true G o c ρ H K):
   ∃z,K (upd ρ o.dst z) H/\(Region.wanted o (yielded ops a.tmps)=true->∃v,rep S w1 z v/\∀w,CC w->o.quietAt P a (Rw w) w v)/\(Region.wanted o (yielded ops a.tmps)=false->rep S w1 z undef):=by
 rw[ho]at hb;simp only[Op.operands,Call.operands]at hb;unfold Bk at h;split at h
 . rename_i b hc
   obtain⟨ys,h2,ab⟩:=mW hF c.args.toList (fun x hx=>hn▸hb x (by simp[Array.mem_toList_iff.1 hx])) h;clear h;have h:=h2;clear h2;split at h
   . rename_i x t J
     obtain⟨z,hz,hl⟩:=ER (G:=G) (ty:=o.type) hS.rows h;refine⟨_,hz,fun M=>?_,fun M=>eN fun h=>by rw[O.2 h]at M;simp at M⟩;have F:=O.1 M;have hr:=ab F;simp only[bG]at hr;obtain⟨u,t',e1,e2,rfl⟩:=hr;obtain⟨v,hv,Z⟩:=hl F u e2;have ea:c.args.map a.eval=#[u]:=Array.toList_inj.1 (by simpa using e1);have et:c.argTypes=#[t]:=Array.toList_inj.1 (by simpa using J);refine⟨v,fC F hv,fun w T=>?_⟩;unfold Oper.quietAt;have:(execOp a.eval o).run P w=.ok (.value v) w:=by simp[execOp,ho,resolve,hc,invoke,builtin,ea,et,Z w (ac w T).2]
     rw[this];exact⟨rfl,rfl⟩
   . split at h
     . rename_i I;simp at I
     . exact h.elim
   . split at h
     . rename_i I;simp at I
     . exact h.elim
   . split at h
     . rename_i I;simp at I
     . exact h.elim
   . rename_i x y t t' J
     obtain⟨z,hz,hl⟩:=Gp (P:=P) (S:=S) (w:=w1) (H:=H) (G:=G) (tys:=c.argTypes) (ty:=o.type) h;refine⟨_,hz,fun M=>?_,fun M=>eN fun h=>by rw[O.2 h]at M;simp at M⟩
     . have F:=O.1 M
       have hr:=ab F;simp only[bG]at hr;obtain⟨us,t1,e1,e2,ux,t2,rfl,e3,rfl⟩:=hr;obtain⟨v,hv,Z⟩:=hl F us ux e2 e3;have ea:c.args.map a.eval=#[us,ux]:=Array.toList_inj.1 (by simpa using e1);refine⟨v,fC F hv,fun w T=>?_⟩;unfold Oper.quietAt;have:(execOp a.eval o).run P w=.ok (.value v) w:=by simp[execOp,ho,resolve,hc,invoke,builtin,ea,Z w (ac w T).2]
       rw[this];exact⟨rfl,rfl⟩
   . rename_i x y t t' J
     obtain⟨z,hz,hl⟩:=Gl (P:=P) (S:=S) (w:=w1) (H:=H) (G:=G) (tys:=c.argTypes) (ty:=o.type) h;refine⟨_,hz,fun M=>?_,fun M=>eN fun h=>by rw[O.2 h]at M;simp at M⟩
     . have F:=O.1 M
       have hr:=ab F;simp only[bG]at hr;obtain⟨us,t1,e1,e2,ux,t2,rfl,e3,rfl⟩:=hr;obtain⟨v,hv,Z⟩:=hl F us ux e2 e3;have ea:c.args.map a.eval=#[us,ux]:=Array.toList_inj.1 (by simpa using e1);refine⟨v,fC F hv,fun w T=>?_⟩;unfold Oper.quietAt;have:(execOp a.eval o).run P w=.ok (.value v) w:=by simp[execOp,ho,resolve,hc,invoke,builtin,ea,Z w (ac w T).2]
       rw[this];exact⟨rfl,rfl⟩
   . exact h.elim
 . rename_i f hc
   obtain⟨yf,h2,hf⟩:=aU (S:=S) (w:=w1) h;clear h;have h:=h2;clear h2;split at h
   . rename_i g aj al am
     by_cases ag:nl=true
     . rw[if_pos ag]at h
       exact absurd h.2.1 (by decide)
     rw[if_neg ag]at h;obtain⟨ys,h2,ab⟩:=mW hF c.args.toList (fun x hx=>hn▸hb x (by simp[hc,Array.mem_toList_iff.1 hx])) h;clear h;obtain⟨ah,h⟩:=h2;have ai:=fun hg=>As am (hf hg _ (cO hF (hn▸hb f (by simp[hc]))))
     have J:gt G->∃first E:Array Value,a.eval f=.func (.func g) first E/\bG S w1 (aj++ys++al) (first++c.args.map a.eval++E).toList:=fun hg=>by
       obtain⟨first,E,h1,h2,h3⟩:=ai hg;refine⟨first,E,h1,?_⟩;simp only[Array.toList_append];refine dI _ _ _ _ (dI _ _ _ _ h2 ?_) h3;simpa using ab hg
     split at h
     . rename_i I;simp at I
     . obtain⟨r,hq,hk⟩:=h
       by_cases F:gt G
       . rcases hq F with hq|⟨x,rfl,an⟩
         . obtain⟨v,ae⟩:=hq.val
           rw[Mo (by rw[ae];rfl)]at hk;refine⟨_,hk,fun M=>?_,fun M=>eN fun h=>by rw[O.2 h]at M;simp at M⟩;obtain⟨first,E,ak,af⟩:=J F;have ad:∀w,(execOp a.eval o).run P w=.ok (.enter g (first++c.args.map a.eval++E)) w:=fun w=>by
             simp only[execOp,ho];rw[nY hc ak];simp[invoke,qK ah]
           have hv:=(hq.calls ae hS af).1;refine⟨v,fC F (hv S w1),fun w T=>?_⟩;have aa:=(hq.calls ae (ac w T).1 (dR S.le_refl (ac w T).2.kept _ _ af)).2;unfold Oper.quietAt;rw[ad];refine⟨rfl,?_⟩;rw[Array.toArray_toList]at aa;exact aa
         . exact hk.elim
       . obtain⟨z,hk⟩:=KS hk
         refine⟨_,hk,fun M=>absurd (O.1 M) F,fun M=>eN F⟩
   . exact h.elim
 . exact h.elim
theorem tX{o:Oper}{w1:World}{CC:World->Prop}(F:∀w,CC w->St S w H/\Agree S H w1 w)(T:∀o∈ops,jK n o=true)(O:St S w1 H)(J:FR S w1 ρ a)(M:a.tmps.size=n)(hb:jK n o=true)(h:aop P (bA P) (dN P) mt true ops o ρ H K):
   ∃z,K (upd ρ o.dst z) H/\(Region.wanted o (yielded ops a.tmps)=true->∃v,rep S w1 z v/\∀w,CC w->o.quietAt P a (Rw w) w v)/\(Region.wanted o (yielded ops a.tmps)=false->rep S w1 z undef):=by
 obtain⟨E,_⟩:=wJ hb;unfold aop at h;obtain⟨G,h2,u⟩:=vF T J M h;clear h;have h:=h2;clear h2;split at h
 . rename_i x I
   unfold B9 at h;split at h
   . rename_i Z;simp at Z
   . exact vC F O J M E u (by rw[I];exact h)
 . split at h
   . simp at h
   . exact h.elim
 . simp at h
 . simp at h
 . simp at h
 . rename_i c I;exact NW F O J M I E u h
 all_goals first
   | exact h.elim
   | (simp at h;done)
   | (rename_i I; split at h
      . simp at h;done
      . exact vC F O J M E u (by rw[I];exact h))
   | (rename_i I; split at h
      . obtain⟨rfl,h⟩:=h
        rw[if_pos rfl]at h;obtain⟨z,hz,v,hv,hq⟩:=Dp (S:=S) (w1:=w1) J (fun x hx=>M▸E x hx) I h;exact⟨z,hz,fun _=>⟨v,hv,fun w _=>by unfold Oper.quietAt;rw[hq w];exact⟨rfl,rfl⟩⟩,fun hw=>by rw[cY u rfl]at hw;cases hw⟩
      . exact vC F O J M E u (by rw[I];exact h))
   | (rename_i I;exact vC F O J M E u (by rw[I];exact h))
theorem MF{o:Oper}{w1:World}{CC:World->Prop}(F:∀w,CC w->St S w bY/\Agree S bY w1 w)(hS:St S w1 H)(hF:FR S w1 ρ a)(hn:a.tmps.size=n){t:TypeId}{x:Operand}{lo hi m:Option Operand}(I:o.op=.slice t x lo hi m)(J:∀x∈o.op.operands,opB n x=true){G:Option Bool}
   (u:Region.wanted o (yielded ops a.tmps)=true↔gt G) (h:gK P G ρ H o.op fun x=>K (upd ρ o.dst (wr G x)) H):
   ∃z,K (upd ρ o.dst z) H/\(Region.wanted o (yielded ops a.tmps)=true->∃v,rep S w1 z v/\∀w,CC w->o.quietAt P a (Rw w) w v)/\(Region.wanted o (yielded ops a.tmps)=false->rep S w1 z undef):=by
 rw[I]at J h;obtain⟨z,Z,T⟩:=Bg (H':=bY) (hn▸J) hF hS.rows h;refine⟨_,Z,fun E=>?_,fun E=>?_⟩
 . obtain⟨v,hv,M⟩:=T (u.1 E)
   refine⟨v,fC (u.1 E) hv,fun w O=>?_⟩;unfold Oper.quietAt;rw[M w (F w O).2 o I];exact⟨rfl,rfl⟩
 . exact eN fun h=>by rw[u.2 h]at E;simp at E
theorem Qf{o:Oper}{w1:World}{CC:World->Prop}(I:∀w,CC w->St S w bY/\Agree S bY w1 w)(E:∀o∈ops,jK n o=true)(hS:St S w1 H)(O:FR S w1 ρ a)(T:a.tmps.size=n)(hb:jK n o=true){K:Env->Prop}(h:aop P (bA P) (dN P) mt true ops o ρ (qH o H) fun u _=>K u):
   ∃z,K (upd ρ o.dst z)/\(Region.wanted o (yielded ops a.tmps)=true->∃v,rep S w1 z v/\∀w,CC w->o.quietAt P a (Rw w) w v)/\(Region.wanted o (yielded ops a.tmps)=false->rep S w1 z undef):=by
 by_cases hs:∃t x lo hi m,o.op=.slice t x lo hi m
 . obtain⟨t,x,lo,hi,m,F⟩:=hs
   have e:qH o H=H:=by unfold qH;rw[F]
   rw[e]at h;obtain⟨M,_⟩:=wJ hb;unfold aop at h;obtain⟨G,Z,J⟩:=vF E O T h;clear h;rw[F]at Z;exact MF (K:=fun u _=>K u) I hS O T F M J (by rw[F];exact Z)
 . have e : qH o H = bY := by
     unfold qH;split
     . rename_i F;exact absurd ⟨_,_,_,_,_,F⟩ hs
     . rfl
   rw[e]at h;exact tX (K:=fun u _=>K u) I E (hS.drop fun k r hk=>by simp[bY]at hk) O T hb h
theorem ID{Q':Exit->Act->World->Prop}{wb:World}{Sb:Sg}{Hb:aH}(u:∀o∈ops,jK n o=true)(hQ:∀ρ H a w,K ρ H->Rel n Sb wb Hb ρ H a w->Q' .normal a w):
   ∀(l:List Oper) (k:Nat) (listed:Array Bool) (ρ:Env) (H:aH) (a:Act) (w:World),(∀j,l[j]?=ops[k+j]?)->(∀o∈l,jK n o=true)->Region.seqB .any ops l.length k listed=true ->
     vE P (bA P) (dN P) mt false ops K l ρ H->Rel n Sb wb Hb ρ H a w->iP P .any ops (Cb Sb wb) Rw Q' l.length listed a w
 | [],_,_,ρ,H,a,w,_,_,hB,h,hR=>⟨by simpa[Region.seqB]using hB,hQ ρ H a w h hR⟩
 | o::rest,k,listed,ρ,H,a,w,hl,hb,hB,h,hR=>by
   have h0:ops[k]?=some o:=by simpa using(hl 0).symm
   simp only[List.length_cons,Region.seqB,Bool.and_eq_true,decide_eq_true_eq]at hB;refine⟨by rw[hB.1];simp,fun i hi=>?_⟩;rw[hB.1]at hi;have M:i=k:=by simpa using hi
   subst M;obtain⟨S,hS,hF,hG,hN,hd,hn⟩:=hR;have he:=uT (K':=fun J w'=>J.defers=[]/\Cb Sb wb w'/\∀I,Rw w' I->iP P .any ops (Cb Sb wb) Rw Q' rest.length (listed.setIfInBounds i true) J I) (Q':=fun _ _ _=>False) u hS hF hG hN hd hn (hb o (by simp))
     (fun Z H' J w' E T=>by
       refine⟨?_,?_,fun I h2=>ID u hQ rest (i+1) _ Z H' J I (fun j=>by have:=hl (j+1);simpa[Nat.add_assoc,Nat.add_comm 1 j]using this) (fun o ho=>hb o (by simp[ho])) hB.2 E (T.rw h2)⟩
       . obtain⟨S',_,_,_,_,aa,_⟩:=T;exact aa
       . obtain⟨S',_,_,O,_⟩:=T;exact O.cb) h
   unfold gOp;simp only[h0];by_cases F:Region.wanted o (yielded ops a.tmps)=true
   . rw[if_pos F]
     exact oZ (fun v w' E=>E.2) (zA (fun a w E=>E.1) (he.1 F))
   . rw[if_neg F]
     exact(he.2 (by simpa using F)).2
theorem FE{Q':Exit->Act->World->Prop}{wb:World}{Sb:Sg}(F:∀o∈ops,jK n o=true)(Z:Region.noSelect ops=true)(E:St Sb wb bY){g:Nat}
   (hK:∀ρ a u w,K ρ bY->Rw wb w->FR Sb wb ρ a->a.defers=[]->a.tmps.size=n->∀k,Region.seqB .any ops g k u=true->k=ops.size-g->iP P .any ops (Cb Sb wb) Rw Q' g u a w):
   ∀(l:List Oper) (k:Nat) (u:Array Bool) (ρ:Env) (a:Act),(∀j,j<l.length->l[j]?=ops[k+j]?)->k+l.length=ops.size-g->(∀o∈l,jK n o=true)->Region.lexHead .any ops g l.length k u=true ->
     vE P (bA P) (dN P) mt true ops K l ρ bY->FR Sb wb ρ a->a.defers=[]->a.tmps.size=n->∀w,Rw wb w->iP P .any ops (Cb Sb wb) Rw Q' (l.length+g) u a w
 | [],k,u,ρ,a,_,hk,_,hB,h,hF,hd,hn,w,hC=>by
   rw[List.length_nil,Nat.zero_add];exact hK ρ a u w h hC hF hd hn k hB (by simpa using hk)
 | o::rest,k,u,ρ,a,hl,hk,hb,hB,h,hF,hd,hn,w,hC=>by
   have h0:ops[k]?=some o:=by simpa using(hl 0 (by simp)).symm
   simp only[List.length_cons,Region.lexHead,Bool.and_eq_true]at hB;obtain⟨⟨I,hf⟩,aa⟩:=hB;obtain⟨z,hz,h1,T⟩:=tX (CC:=Cb Sb wb) (fun w J=>⟨J.st E,J.agree E⟩) F E hF hn (hb o (by simp)) h;have next:∀v,rep Sb wb z v->∀O,Rw w O->iP P .any ops (Cb Sb wb) Rw Q' (rest.length+g) (u.setIfInBounds k true) (a.put o.dst v) O:=fun v hv O T=>
     FE F Z E hK rest (k+1) _ _ _ (fun j hj=>by have:=hl (j+1) (by simp;omega);simpa[Nat.add_assoc,Nat.add_comm 1 j]using this) (by simp only[List.length_cons]at hk;omega) (fun o ho=>hb o (by simp[ho])) aa hz (FR.put hF hv) (by rw[mM];exact hd) (by rw[tY];exact hn) O (hC.trans T)
   rw[List.length_cons,show rest.length+1+g=(rest.length+g)+1 by omega];by_cases hw:Region.wanted o (yielded ops a.tmps)=true
   . obtain⟨v,hv,hq⟩:=h1 hw
     exact iW h0 (Region.noSelect_spec Z) Rw.refl (fun _ _ _=>Rw.trans) (fun _ _ J I=>J.rw E I) _ u a w (hC.cb E) (Region.free_spec h0 hf) (by simpa using I) (.inl ⟨hw,hq⟩) (next v hv)
   . have M:Region.wanted o (yielded ops a.tmps)=false:=by simpa using hw
     exact iW h0 (Region.noSelect_spec Z) Rw.refl (fun _ _ _=>Rw.trans) (fun _ _ J I=>J.rw E I) _ u a w (hC.cb E) (Region.free_spec h0 hf) (by simpa using I) (.inr ⟨M,rfl⟩) (next _ (T M))
theorem Qy{Q':Exit->Act->World->Prop}{id m:Nat}(hm:P.follows .mixedOrders=true)(u:∀o∈ops,jK n o=true)(hB:SE ops m=true)
   (h:vE P (bA P) (dN P) mt true ops (fun E _=>vE P (bA P) (dN P) mt false ops K (ops.toList.drop m) E H) (ops.toList.take m) ρ bY)
   (hR:Rel n S0 w0 H0 ρ H a w) (hQ:∀ρ H a w,K ρ H->Rel n S0 w0 H0 ρ H a w->Q' .normal a w):(Code.region id ops true).wp P Q' a w:=by
 obtain⟨S,hS,hF,hG,hN,hd,hn⟩:=hR;simp only[SE,Bool.and_eq_true,decide_eq_true_eq]at hB;obtain⟨⟨hs,al⟩,ab⟩:=hB
 let w1:World:={ w with drawn:=w.drawn+1 }
 have I:St S w1 H:=hS.after (Nat.le_refl _) fun _ _=>rfl
 have aa:Grow S w S w1:=hS.grow rfl rfl rfl (Nat.le_refl _) fun _ _=>rfl
 have aj:FR S w1 ρ a:=hF.keep S.le_refl (aa.kept hS);have ae:St S w1 bY:=I.drop fun k r hk=>by simp[bY]at hk
 refine wp_region_any hm (rM (C:=Cb S w1) (R:=Rw) Rw.refl _ _ _ _ ?_);have J:(ops.toList.take m).length=m:=by simp;omega
 have:=FE (Q':=Q') (g:=ops.size-m) (wb:=w1) (Sb:=S) u hs ae (K:=fun E _=>vE P (bA P) (dN P) mt false ops K (ops.toList.drop m) E H) (fun E a' F w' hk T Z O M k ac ak=>by
   have ad:k=m:=by omega
   subst ad;have hx:=ID (Q':=Q') (wb:=w1) (Sb:=S) (Hb:=H) u (K:=K) (fun ρ H a w hk hr=>by
     obtain⟨S',af,Z,ah,ag,O,M⟩:=hr;exact hQ ρ H a w hk ⟨S',af,Z,hG.trans (aa.trans ah),hN.trans ag hG.le.N,O,M⟩) (ops.toList.drop k) k F E H a' w' (fun j=>by simp[List.getElem?_drop]) (fun o ho=>u o (Array.mem_toList_iff.1 (List.mem_of_mem_drop ho)))
     (by simpa using ac) hk ?_
   . simpa using hx
   . have hg:=I.grow T.1 T.2.1 T.2.2.1 T.2.2.2.1 T.2.2.2.2
     exact⟨S,I.after T.2.2.2.1 T.2.2.2.2,Z.keep S.le_refl (hg.kept I),hg,eY.refl _ _,O,M⟩) (ops.toList.take m) 0 (Array.replicate ops.size false) ρ a (fun j hj=>by
       have ai:j<m:=by rw[J]at hj;exact hj
       simp[ai]) (by rw[J];omega) (fun o ho=>u o (Array.mem_toList_iff.1 (List.mem_of_mem_take ho))) (by rw[J];exact ab) h aj hd hn w1 (Rw.refl w1)
 rw[J,show m+(ops.size-m)=ops.size by omega]at this;exact this
theorem sO{C u:World->Prop}{R:World->World->Prop}{Q':Exit->Act->World->Prop}(h:∀w,u w->C w):∀(f:Nat) (listed:Array Bool) (a:Act) (w:World),iP P .any ops u R Q' f listed a w->iP P .any ops C R Q' f listed a w
 | 0,_,_,_,hw=>hw
 | f+1,_,_,_,hw=>⟨hw.1,fun i I=>E4 (fun M w' E=>⟨h w' E.1,fun J F=>sO h f _ _ _ (E.2 J F)⟩) (hw.2 i I)⟩
theorem Cb.mono{S S':Sg}{w w' E:World}{H:aH}(I:St S w H)(u:Grow S w S' w')(h:Cb S' w' E):Cb S w E:=
 ⟨h.1.trans u.os,h.2.1.trans u.tape,h.2.2.1.trans u.output,Nat.le_trans u.size h.2.2.2.1,fun k F=>(h.2.2.2.2 k (u.fz k F)).trans (u.same k F)⟩
theorem yM{Q':Exit->Act->World->Prop}(u:∀o∈ops,jK n o=true)(E:Region.noSelect ops=true)(hQ:∀ρ H a w,K ρ H->Rel n S0 w0 H0 ρ H a w->Q' .normal a w):
   ∀(f:List (Nat×Bool)) (listed:Array Bool) (ρ:Env) (H:aH) (a:Act) (w:World) (S:Sg),oA ops f listed=true ->
     xE P (bA P) (dN P) mt ops K f ρ H->St S w H->FR S w ρ a->Grow S0 w0 S w->eY S0.N H0 H->a.defers=[]->a.tmps.size=n->∀I,Rw w I->iP P .any ops (Cb S w) Rw Q' f.length listed a I
 | [],listed,ρ,H,a,w,S,hB,h,hS,hF,hG,hN,hd,hn,I,h2=>by
   refine⟨by simpa[oA]using hB,hQ ρ H a I h (Rel.rw ⟨S,hS,hF,hG,hN,hd,hn⟩ h2)⟩
 | (k,true)::f,listed,ρ,H,a,w,S,hB,h,hS,hF,hG,hN,hd,hn,I,h2=>by
   simp only[oA,Bool.and_eq_true]at hB;obtain⟨⟨M,hf⟩,ai⟩:=hB;unfold xE at h;split at h
   . rename_i o h0
     rw[if_pos rfl]at h;have T:=u o (Array.mem_of_getElem? h0);obtain⟨z,hz,h1,Z⟩:=Qf (CC:=Cb S w) (K:=fun aa=>xE P (bA P) (dN P) mt ops K f aa H) (fun w hc=>⟨hc.st hS,hc.agree hS⟩) u hS hF hn T h;have next:∀v,rep S w z v->∀F,Rw w F->iP P .any ops (Cb S w) Rw Q' f.length (listed.setIfInBounds k true) (a.put o.dst v) F:=fun v hv F Z=>
       yM u E hQ f _ _ H _ w S ai hz hS (FR.put hF hv) hG hN (by rw[mM];exact hd) (by rw[tY];exact hn) F Z
     rw[List.length_cons];by_cases J:Region.wanted o (yielded ops a.tmps)=true
     . obtain⟨v,hv,hq⟩:=h1 J
       exact iW h0 (Region.noSelect_spec E) Rw.refl (fun _ _ _=>Rw.trans) (fun _ _ hc M=>hc.rw hS M) _ listed a I (h2.cb hS) (Region.free_spec h0 hf) (by simpa using M) (.inl ⟨J,hq⟩) (fun F Z=>next v hv F (h2.trans Z))
     . have ab:Region.wanted o (yielded ops a.tmps)=false:=by simpa using J
       exact iW h0 (Region.noSelect_spec E) Rw.refl (fun _ _ _=>Rw.trans) (fun _ _ hc M=>hc.rw hS M) _ listed a I (h2.cb hS) (Region.free_spec h0 hf) (by simpa using M) (.inr ⟨ab,rfl⟩) (fun F al=>next _ (Z ab) F (h2.trans al))
   . exact h.elim
 | (k,false)::f,listed,ρ,H,a,w,S,hB,h,hS,hF,hG,hN,hd,hn,I,h2=>by
   simp only[oA,Bool.and_eq_true,decide_eq_true_eq]at hB;unfold xE at h;split at h
   . rename_i o h0
     rw[if_neg (by simp)]at h;have T:=u o (Array.mem_of_getElem? h0);rw[List.length_cons];refine⟨by rw[hB.1];simp,fun i hi=>?_⟩;rw[hB.1]at hi;have aj:i=k:=by simpa using hi
     subst aj;have ad:=hS.grow h2.1 h2.2.1 h2.2.2.1 h2.2.2.2.1 h2.2.2.2.2;have ae:St S I H:=hS.after h2.2.2.2.1 h2.2.2.2.2;have am:FR S I ρ a:=hF.keep S.le_refl (ad.kept hS);have he:=uT (S0:=S) (w0:=I) (H0:=H) (K:=xE P (bA P) (dN P) mt ops K f) (K':=fun a' w'=>a'.defers=[]/\Cb S w w'/\∀F,Rw w' F->iP P .any ops (Cb S w) Rw Q' f.length (listed.setIfInBounds i true) a' F) (Q':=fun _ _ _=>False) u ae am (Grow.refl S I) (eY.refl _ _) hd hn T
       (fun aa H' a' w' hk M=>by
         obtain⟨S',ag,an,ak,ah,ac,af⟩:=M;have O:Grow S w S' w':=ad.trans ak;refine⟨ac,O.cb,fun F Z=>?_⟩;refine sO (fun x hx=>Cb.mono hS O hx) _ _ _ _ (yM u E hQ f _ aa H' a' w' S' hB.2 hk ag an (hG.trans O) (hN.trans ah hG.le.N) ac af F Z)) h
     unfold gOp;simp only[h0];by_cases J:Region.wanted o (yielded ops a.tmps)=true
     . rw[if_pos J]
       exact oZ (fun v w' hk=>hk.2) (zA (fun a w hk=>hk.1) (he.1 J))
     . rw[if_neg J]
       exact(he.2 (by simpa using J)).2
   . exact h.elim
theorem Ud{Q':Exit->Act->World->Prop}{id:Nat}{f:List (Nat×Bool)}(hm:P.follows .mixedOrders=true)(F:∀o∈ops,jK n o=true)(T:L0 ops f=true)
   (h:xE P (bA P) (dN P) mt ops K f ρ H)
   (hR:Rel n S0 w0 H0 ρ H a w) (hQ:∀ρ H a w,K ρ H->Rel n S0 w0 H0 ρ H a w->Q' .normal a w):(Code.region id ops true).wp P Q' a w:=by
 obtain⟨S,M,hF,hG,hN,hd,hn⟩:=hR;simp only[L0,Bool.and_eq_true,decide_eq_true_eq]at T;obtain⟨⟨Z,O⟩,u⟩:=T
 let w1:World:={ w with drawn:=w.drawn+1 }
 have J:St S w1 H:=M.after (Nat.le_refl _) fun _ _=>rfl
 have E:Grow S w S w1:=M.grow rfl rfl rfl (Nat.le_refl _) fun _ _=>rfl
 have I:FR S w1 ρ a:=hF.keep S.le_refl (E.kept M);refine wp_region_any hm (rM (C:=Cb S w1) (R:=Rw) Rw.refl _ _ _ _ ?_);have:=yM (Q':=Q') F Z hQ f (Array.replicate ops.size false) ρ H a w1 S u h J I (hG.trans E) hN hd hn w1 (Rw.refl w1);rw[O]at this;exact this
structure Pin(S:Sg)(w:World)(Hp:aH):Prop where
 rows:yV S w Hp
 fz:∀k r,Hp k=some r->∀g,blk (S.loc k)=some g->S.fz g/\¬S.ro g
 disj:∀k k' r r',Hp k=some r->Hp k'=some r'->k≠k'->∀g,blk (S.loc k)=some g->blk (S.loc k')≠some g
def afE(S:Sg)(Hp:aH)(g:Nat):Prop:=∃k r,Hp k=some r/\blk (S.loc k)=some g
def Sg.unpin(S:Sg)(Hp:aH):Sg:={ S with fz:=fun g=>S.fz g/\¬afE S Hp g }
def Sg.pin(S:Sg)(Hp:aH):Sg:={ S with fz:=fun g=>S.fz g\/afE S Hp g }
theorem Sg.le_unpin(S:Sg)(Hp:aH):S.le (S.unpin Hp):=⟨fun _ h=>h,Nat.le_refl _,fun _ _=>rfl,fun _ _=>rfl⟩
theorem Sg.unpin_le(S:Sg)(Hp:aH):(S.unpin Hp).le S:=⟨fun _ h=>h,Nat.le_refl _,fun _ _=>rfl,fun _ _=>rfl⟩
theorem Sg.le_pin(S:Sg)(Hp:aH):S.le (S.pin Hp):=⟨fun _ h=>h,Nat.le_refl _,fun _ _=>rfl,fun _ _=>rfl⟩
theorem Pin.merge{Hp T:aH}(h:Pin S w Hp)(I:St S w H)(O:∀k r,T k=some r->H k=some r\/Hp k=some r):St (S.unpin Hp) w T:=by
 have hr:∀k r,T k=some r->RowOK S w k r:=fun k r u=>by
   rcases O k r u with h1|h1
   . exact I.rows k r h1
   . exact h.rows k r h1
 refine⟨fun k u=>⟨I.ro_fz k u,fun⟨i,r,hi,E⟩=>(h.fz i r hi k E).2 u⟩,fun k u=>I.fz_lt k u.1,fun k r u=>(hr k r u).keep (S.le_unpin Hp) (fG.refl S w) (fun _ _=>rfl),fun k r u g E hf=>?_,fun k k' r r' u Z M g E F=>?_,I.tabs⟩
 . rcases O k r u with h1|h1
   . exact I.free k r h1 g E hf.1
   . exact hf.2 ⟨k,r,h1,E⟩
 . rcases O k r u with h1|h1 <;> rcases O k' r' Z with J|J
   . exact I.disj k k' r r' h1 J M g E F
   . exact I.free k r h1 g E (h.fz k' r' J g F).1
   . exact I.free k' r' J g F (h.fz k r h1 g E).1
   . exact h.disj k k' r r' h1 J M g E F
theorem Pin.keep{Hp:aH}{S':Sg}{w':World}(h:Pin S w Hp)(T:St S w H)(u:Grow S w S' w'):Pin S' w' Hp:=by
 refine⟨fun k r E=>(h.rows k r E).keep u.le (u.kept T) (fun g F=>u.same g (h.fz k r E g F).1),fun k r E g F=>?_,fun k k' r r' E I M g F=>?_⟩
 . rw[u.le.loc k (h.rows k r E).lt]at F
   have h1:=h.fz k r E g F;refine⟨u.fz g h1.1,fun O=>?_⟩;rcases u.newro g O with J|J
   . exact h1.2 J
   . exact J h1.1
 . rw[u.le.loc k (h.rows k r E).lt]at F
   rw[u.le.loc k' (h.rows k' r' I).lt];exact h.disj k k' r r' E I M g F
theorem Cb.pin{wb w:World}{H Hp:aH}(E:St S wb H)(F:Pin S wb Hp)(h:Cb S wb w):St (S.unpin Hp) w Hp/\Agree (S.unpin Hp) Hp wb w:=by
 have J:Grow S wb S w:=⟨S.le_refl,fun _ h=>h,h.1,h.2.1,h.2.2.1,h.2.2.2.1,h.2.2.2.2,fun _ h=>.inl h⟩;exact⟨(F.keep E J).merge (h.st E) (fun k r u=>.inr u),⟨fun k u=>h.2.2.2.2 k (E.ro_fz k u),fun k r u g I=>h.2.2.2.2 g (F.fz k r u g I).1⟩⟩
theorem uV{Q':Exit->Act->World->Prop}{Hp:aH}(u:∀o∈ops,jK n o=true)(E:Region.noSelect ops=true)
   (hQ:∀ρ H a w S,K ρ H->St S w H->Pin S w Hp->FR S w ρ a->Grow S0 w0 S w->eY S0.N H0 H->a.defers=[]->a.tmps.size=n->Q' .normal a w):
   ∀(f:List (Nat×Bool)) (listed:Array Bool) (ρ:Env) (H:aH) (a:Act) (w:World) (S:Sg),oA ops f listed=true ->
     pO P (bA P) (dN P) mt ops K Hp f ρ H->St S w H->Pin S w Hp->FR S w ρ a->Grow S0 w0 S w->eY S0.N H0 H->a.defers=[]->a.tmps.size=n->∀I,Rw w I->iP P .any ops (Cb S w) Rw Q' f.length listed a I
 | [],listed,ρ,H,a,w,S,hB,h,hS,hP,hF,hG,hN,hd,hn,I,h2=>by
   have hg:=hS.grow h2.1 h2.2.1 h2.2.2.1 h2.2.2.2.1 h2.2.2.2.2;exact⟨by simpa[oA]using hB,hQ ρ H a I S h (hS.after h2.2.2.2.1 h2.2.2.2.2) (hP.keep hS hg) (hF.keep S.le_refl (hg.kept hS)) (hG.trans hg) hN hd hn⟩
 | (k,true)::f,listed,ρ,H,a,w,S,hB,h,hS,hP,hF,hG,hN,hd,hn,I,h2=>by
   simp only[oA,Bool.and_eq_true]at hB;obtain⟨⟨M,hf⟩,ak⟩:=hB;unfold pO at h;split at h
   . rename_i o h0
     rw[if_pos rfl]at h;have T:=u o (Array.mem_of_getElem? h0);obtain⟨z,hz,h1,Z⟩:=tX (S:=S.unpin Hp) (CC:=Cb S w) (K:=fun aa _=>pO P (bA P) (dN P) mt ops K Hp f aa H) (fun w hc=>hc.pin hS hP) u (hP.merge hS fun k r hk=>.inr hk) (hF.keep (S.le_unpin Hp) (fG.refl S w)) hn T h;have next:∀v,rep (S.unpin Hp) w z v->∀F,Rw w F->iP P .any ops (Cb S w) Rw Q' f.length (listed.setIfInBounds k true) (a.put o.dst v) F:=fun v hv F Z=>
       uV u E hQ f _ _ H _ w S ak hz hS hP (FR.put hF (kG (S.unpin_le Hp) (fG.refl (S.unpin Hp) w) _ _ hv)) hG hN (by rw[mM];exact hd) (by rw[tY];exact hn) F Z
     rw[List.length_cons];by_cases J:Region.wanted o (yielded ops a.tmps)=true
     . obtain⟨v,hv,hq⟩:=h1 J
       exact iW h0 (Region.noSelect_spec E) Rw.refl (fun _ _ _=>Rw.trans) (fun _ _ hc M=>hc.rw hS M) _ listed a I (h2.cb hS) (Region.free_spec h0 hf) (by simpa using M) (.inl ⟨J,hq⟩) (fun F Z=>next v hv F (h2.trans Z))
     . have ae:Region.wanted o (yielded ops a.tmps)=false:=by simpa using J
       exact iW h0 (Region.noSelect_spec E) Rw.refl (fun _ _ _=>Rw.trans) (fun _ _ hc M=>hc.rw hS M) _ listed a I (h2.cb hS) (Region.free_spec h0 hf) (by simpa using M) (.inr ⟨ae,rfl⟩) (fun F am=>next _ (Z ae) F (h2.trans am))
   . exact h.elim
 | (k,false)::f,listed,ρ,H,a,w,S,hB,h,hS,hP,hF,hG,hN,hd,hn,I,h2=>by
   simp only[oA,Bool.and_eq_true,decide_eq_true_eq]at hB;unfold pO at h;split at h
   . rename_i o h0
     rw[if_neg (by simp)]at h;have T:=u o (Array.mem_of_getElem? h0);rw[List.length_cons];refine⟨by rw[hB.1];simp,fun i hi=>?_⟩;rw[hB.1]at hi;have al:i=k:=by simpa using hi
     subst al;have ab:=hS.grow h2.1 h2.2.1 h2.2.2.1 h2.2.2.2.1 h2.2.2.2.2;have ac:St S I H:=hS.after h2.2.2.2.1 h2.2.2.2.2;have ah:Pin S I Hp:=hP.keep hS ab;have an:FR S I ρ a:=hF.keep S.le_refl (ab.kept hS);have he:=uT (S0:=S) (w0:=I) (H0:=H) (K:=pO P (bA P) (dN P) mt ops K Hp f) (K':=fun a' w'=>a'.defers=[]/\Cb S w w'/\∀F,Rw w' F->iP P .any ops (Cb S w) Rw Q' f.length (listed.setIfInBounds i true) a' F) (Q':=fun _ _ _=>False) u ac an (Grow.refl S I) (eY.refl _ _) hd hn T
       (fun aa H' a' w' hk M=>by
         obtain⟨S',ai,ao,ad,aj,af,ag⟩:=M;have O:Grow S w S' w':=ab.trans ad;refine⟨af,O.cb,fun F Z=>?_⟩;refine sO (fun x hx=>Cb.mono hS O hx) _ _ _ _ (uV u E hQ f _ aa H' a' w' S' hB.2 hk ai (ah.keep ac ad) ao (hG.trans O) (hN.trans aj hG.le.N) af ag F Z)) h
     unfold gOp;simp only[h0];by_cases J:Region.wanted o (yielded ops a.tmps)=true
     . rw[if_pos J]
       exact oZ (fun v w' hk=>hk.2) (zA (fun a w hk=>hk.1) (he.1 J))
     . rw[if_neg J]
       exact(he.2 (by simpa using J)).2
   . exact h.elim
theorem qR{Q':Exit->Act->World->Prop}{Hp:aH}(J:∀o∈ops,jK n o=true){i m:Nat}{o:Oper}{u:Array Bool}{K1:Env->aH->Prop}(h0:ops[i]?=some o)(h:aop P (bA P) (dN P) mt false ops o ρ H K1)
   (hS:St S w H) (hP:Pin S w Hp) (hF:FR S w ρ a) (hd:a.defers=[]) (hn:a.tmps.size=n) {T:World} (O:Rw w T)
   (next:∀I H' E w' S',K1 I H'->St S' w' H'->Pin S' w' Hp->FR S' w' I E->Grow S w S' w'->eY S.N H H'->E.defers=[]->E.tmps.size=n->∀F,Rw w' F->iP P .any ops (Cb S' w') Rw Q' m (u.setIfInBounds i true) E F):
   gOp P ops i (fun E w'=>Cb S w w'/\∀F,Rw w' F->iP P .any ops (Cb S w) Rw Q' m (u.setIfInBounds i true) E F) a T:=by
 have ag:=J o (Array.mem_of_getElem? h0);have Z:=hS.grow O.1 O.2.1 O.2.2.1 O.2.2.2.1 O.2.2.2.2;have aa:St S T H:=hS.after O.2.2.2.1 O.2.2.2.2;have ae:Pin S T Hp:=hP.keep hS Z;have ai:FR S T ρ a:=hF.keep S.le_refl (Z.kept hS);have he:=uT (S0:=S) (w0:=T) (H0:=H) (K:=K1) (K':=fun E w'=>E.defers=[]/\Cb S w w'/\∀F,Rw w' F->iP P .any ops (Cb S w) Rw Q' m (u.setIfInBounds i true) E F) (Q':=fun _ _ _=>False) J aa ai (Grow.refl S T) (eY.refl _ _) hd hn ag
   (fun I H' E w' hk hr=>by
     obtain⟨S',af,aj,ab,ah,ac,ad⟩:=hr;have M:Grow S w S' w':=Z.trans ab;refine⟨ac,M.cb,fun F h3=>?_⟩;exact sO (fun x hx=>Cb.mono hS M hx) _ _ _ _ (next I H' E w' S' hk af (ae.keep aa ab) aj M ah ac ad F h3)) h
 unfold gOp;simp only[h0];by_cases hw:Region.wanted o (yielded ops a.tmps)=true
 . rw[if_pos hw]
   exact oZ (fun v w' hk=>hk.2) (zA (fun a w hk=>hk.1) (he.1 hw))
 . rw[if_neg hw]
   exact(he.2 (by simpa using hw)).2
theorem oL{q:Bool}{k:Nat}{u:Env->aH->Prop}(h:AK P (bA P) (dN P) mt q ops k ρ H u):∃o,ops[k]?=some o/\aop P (bA P) (dN P) mt q ops o ρ H u:=by
 unfold AK at h;split at h
 . rename_i o h0;exact⟨o,h0,h⟩
 . exact h.elim
theorem iV{Q':Exit->Act->World->Prop}{Hp:aH}(u:∀o∈ops,jK n o=true)(E:Region.noSelect ops=true)
   (hQ:∀ρ H a w S,K ρ H->St S w H->Pin S w Hp->FR S w ρ a->Grow S0 w0 S w->eY S0.N H0 H->a.defers=[]->a.tmps.size=n->Q' .normal a w):
   ∀(t:Mx) (m:Nat) (listed:Array Bool) (ρ:Env) (H:aH) (a:Act) (w:World) (S:Sg),fL ops t m listed=true ->
     mI P (bA P) (dN P) mt ops K Hp t ρ H->St S w H->Pin S w Hp->FR S w ρ a->Grow S0 w0 S w->eY S0.N H0 H->a.defers=[]->a.tmps.size=n->∀w2,Rw w w2->iP P .any ops (Cb S w) Rw Q' m listed a w2
 | .nil,m,listed,ρ,H,a,w,S,hB,h,hS,hP,hF,hG,hN,hd,hn,w2,h2=>by
   cases m with
   | succ m=>simp[fL]at hB
   | zero=>
     have hg:=hS.grow h2.1 h2.2.1 h2.2.2.1 h2.2.2.2.1 h2.2.2.2.2;exact⟨by simpa[fL]using hB,hQ ρ H a w2 S h (hS.after h2.2.2.2.1 h2.2.2.2.2) (hP.keep hS hg) (hF.keep S.le_refl (hg.kept hS)) (hG.trans hg) hN hd hn⟩
 | .q k t,m,listed,ρ,H,a,w,S,hB,h,hS,hP,hF,hG,hN,hd,hn,w2,h2=>by
   cases m with
   | zero=>simp[fL]at hB
   | succ m=>
     simp only[fL,Bool.and_eq_true]at hB;obtain⟨⟨hr,hf⟩,ah⟩:=hB;obtain⟨o,h0,h⟩:=oL h;have ag:=u o (Array.mem_of_getElem? h0);obtain⟨z,hz,h1,h3⟩:=tX (S:=S.unpin Hp) (CC:=Cb S w) (K:=fun F _=>mI P (bA P) (dN P) mt ops K Hp t F H) (fun w hc=>hc.pin hS hP) u (hP.merge hS fun k r hk=>.inr hk) (hF.keep (S.le_unpin Hp) (fG.refl S w)) hn ag h;have next:∀v,rep (S.unpin Hp) w z v->∀w3,Rw w w3->iP P .any ops (Cb S w) Rw Q' m (listed.setIfInBounds k true) (a.put o.dst v) w3:=fun v hv w3 h3=>
       iV u E hQ t m _ _ H _ w S ah hz hS hP (FR.put hF (kG (S.unpin_le Hp) (fG.refl (S.unpin Hp) w) _ _ hv)) hG hN (by rw[mM];exact hd) (by rw[tY];exact hn) w3 h3
     by_cases hw:Region.wanted o (yielded ops a.tmps)=true
     . obtain⟨v,hv,hq⟩:=h1 hw
       exact iW h0 (Region.noSelect_spec E) Rw.refl (fun _ _ _=>Rw.trans) (fun _ _ hc hr=>hc.rw hS hr) _ listed a w2 (h2.cb hS) (Region.free_spec h0 hf) (by simpa using hr) (.inl ⟨hw,hq⟩) (fun w3 h3=>next v hv w3 (h2.trans h3))
     . have ac:Region.wanted o (yielded ops a.tmps)=false:=by simpa using hw
       exact iW h0 (Region.noSelect_spec E) Rw.refl (fun _ _ _=>Rw.trans) (fun _ _ hc hr=>hc.rw hS hr) _ listed a w2 (h2.cb hS) (Region.free_spec h0 hf) (by simpa using hr) (.inr ⟨ac,rfl⟩) (fun w3 ai=>next _ (h3 ac) w3 (h2.trans ai))
 | .a1 k t,m,listed,ρ,H,a,w,S,hB,h,hS,hP,hF,hG,hN,hd,hn,w2,h2=>by
   cases m with
   | zero=>simp[fL]at hB
   | succ m=>
     simp only[fL,Bool.and_eq_true,decide_eq_true_eq]at hB;obtain⟨o,h0,g⟩:=oL h;refine⟨by rw[hB.1];simp,fun i hi=>?_⟩;rw[hB.1]at hi;simp only[List.mem_cons,List.not_mem_nil,or_false]at hi;subst hi;exact qR u h0 g hS hP hF hd hn h2 fun F H' a' w' S' hk J T aa O M Z I w3 h3=>iV u E hQ t m _ F H' a' w' S' hB.2 hk J T aa (hG.trans O) (hN.trans M hG.le.N) Z I w3 h3
 | .a2 k t k' t',m,listed,ρ,H,a,w,S,hB,h,hS,hP,hF,hG,hN,hd,hn,w2,h2=>by
   cases m with
   | zero=>simp[fL]at hB
   | succ m=>
     simp only[fL,Bool.and_eq_true,decide_eq_true_eq]at hB;obtain⟨h,h'⟩:=h;obtain⟨o,h0,g⟩:=oL h;obtain⟨o',ab,g'⟩:=oL h';refine⟨by rw[hB.1.1];simp,fun i hi=>?_⟩;rw[hB.1.1]at hi;simp only[List.mem_cons,List.not_mem_nil,or_false]at hi;rcases hi with rfl|rfl
     . exact qR u h0 g hS hP hF hd hn h2 fun F H' a' w' S' hk J T aa O M Z I w3 h3=>iV u E hQ t m _ F H' a' w' S' hB.1.2 hk J T aa (hG.trans O) (hN.trans M hG.le.N) Z I w3 h3
     . exact qR u ab g' hS hP hF hd hn h2 fun F H' a' w' S' hk J T aa O M Z I w3 h3=>iV u E hQ t' m _ F H' a' w' S' hB.2 hk J T aa (hG.trans O) (hN.trans M hG.le.N) Z I w3 h3
 | .a3 k t k' t' k'' t'',m,listed,ρ,H,a,w,S,hB,h,hS,hP,hF,hG,hN,hd,hn,w2,h2=>by
   cases m with
   | zero=>simp[fL]at hB
   | succ m=>
     simp only[fL,Bool.and_eq_true,decide_eq_true_eq]at hB;obtain⟨h,h',ae⟩:=h;obtain⟨o,h0,g⟩:=oL h;obtain⟨o',ab,g'⟩:=oL h';obtain⟨aj,ad,af⟩:=oL ae;refine⟨by rw[hB.1.1.1];simp,fun i hi=>?_⟩;rw[hB.1.1.1]at hi;simp only[List.mem_cons,List.not_mem_nil,or_false]at hi;rcases hi with rfl|rfl|rfl
     . exact qR u h0 g hS hP hF hd hn h2 fun F H' a' w' S' hk J T aa O M Z I w3 h3=>iV u E hQ t m _ F H' a' w' S' hB.1.1.2 hk J T aa (hG.trans O) (hN.trans M hG.le.N) Z I w3 h3
     . exact qR u ab g' hS hP hF hd hn h2 fun F H' a' w' S' hk J T aa O M Z I w3 h3=>iV u E hQ t' m _ F H' a' w' S' hB.1.2 hk J T aa (hG.trans O) (hN.trans M hG.le.N) Z I w3 h3
     . exact qR u ad af hS hP hF hd hn h2 fun F H' a' w' S' hk J T aa O M Z I w3 h3=>iV u E hQ t'' m _ F H' a' w' S' hB.2 hk J T aa (hG.trans O) (hN.trans M hG.le.N) Z I w3 h3
theorem Pa{Q':Exit->Act->World->Prop}{id:Nat}{l:List Nat}{f:List (Nat×Bool)}(hm:P.follows .mixedOrders=true)(aj:∀o∈ops,jK n o=true)(hl:∀k,k∈l->(H k).isSome=true)(hB:L0 ops f=true)
   (h:∀Hp T:aH,(∀k,k∈l->Hp k=H k)->(∀k,k∉l->T k=H k)->(∀k,k∉l->Hp k=none)->(∀k,k∈l->T k=none)->pO P (bA P) (dN P) mt ops (mA l H K) Hp f ρ T)
   (hR:Rel n S0 w0 H0 ρ H a w) (hQ:∀ρ H a w,K ρ H->Rel n S0 w0 H0 ρ H a w->Q' .normal a w):(Code.region id ops true).wp P Q' a w:=by
 obtain⟨S,hS,hF,hG,hN,hd,hn⟩:=hR;simp only[L0,Bool.and_eq_true,decide_eq_true_eq]at hB;obtain⟨⟨hs,au⟩,am⟩:=hB
 let Hp:aH:=fun k=>if k∈l then H k else none
 let T:aH:=fun k=>if k∈l then none else H k
 have ac:∀k,k∈l->Hp k=H k:=fun k u=>if_pos u
 have ak:∀k,k∉l->Hp k=none:=fun k u=>if_neg u
 have ah:∀k,k∉l->T k=H k:=fun k u=>if_neg u
 have ae:∀k,k∈l->T k=none:=fun k u=>if_pos u
 have I:∀k r,Hp k=some r->H k=some r/\k∈l:=fun k r u=>by
   by_cases h:k∈l
   . exact⟨by rw[<-ac k h];exact u,h⟩
   . rw[ak k h]at u;cases u
 have M:∀k r,T k=some r->H k=some r/\k∉l:=fun k r u=>by
   by_cases h:k∈l
   . rw[ae k h]at u;cases u
   . exact⟨by rw[<-ah k h];exact u,h⟩
 let w1:World:={ w with drawn:=w.drawn+1 }
 have E:St S w1 H:=hS.after (Nat.le_refl _) fun _ _=>rfl
 have al:Grow S w S w1:=hS.grow rfl rfl rfl (Nat.le_refl _) fun _ _=>rfl
 have aq:FR S w1 ρ a:=hF.keep S.le_refl (al.kept hS);have an:St (S.pin Hp) w1 T:=by
   refine⟨fun k u=>.inl (E.ro_fz k u),fun k u=>?_,fun k r u=>(E.rows k r (M k r u).1).keep (S.le_pin Hp) (fG.refl S w1) (fun _ _=>rfl),fun k r u g O hf=>?_,fun k k' r r' u aa ad g O ag=>E.disj k k' r r' (M k r u).1 (M k' r' aa).1 ad g O ag,E.tabs⟩
   . rcases u with h1|⟨i,r,hi,O⟩
     . exact E.fz_lt k h1
     . exact(E.rows i r (I i r hi).1).block_lt O
   . rcases hf with h1|⟨i,r',hi,ag⟩
     . exact E.free k r (M k r u).1 g O h1
     . exact E.disj k i r r' (M k r u).1 (I i r' hi).1 (fun e=>(M k r u).2 (e▸(I i r' hi).2)) g O ag
 have ay:Pin (S.pin Hp) w1 Hp:=by
   refine⟨fun k r u=>(E.rows k r (I k r u).1).keep (S.le_pin Hp) (fG.refl S w1) (fun _ _=>rfl),fun k r u g O=>⟨.inr ⟨k,r,u,O⟩,fun h1=>E.free k r (I k r u).1 g O (E.ro_fz g h1)⟩,fun k k' r r' u aa ad g O=>E.disj k k' r r' (I k r u).1 (I k' r' aa).1 ad g O⟩
 refine wp_region_any hm (rM (C:=Cb (S.pin Hp) w1) (R:=Rw) Rw.refl _ _ _ _ ?_);have:=uV (Q':=Q') (Hp:=Hp) (K:=mA l H K) (S0:=S.pin Hp) (w0:=w1) (H0:=T) aj hs (fun ax H' a' w' S' u aw ap az F ai ar av=>by
   have af:∀k,k∈l->H' k=none:=fun k u=>by
     obtain⟨r,hr⟩:=Option.isSome_iff_exists.1 (hl k u);exact ai k (hS.rows k r hr).lt (ae k u)
   let Hm:aH:=fun k=>if k∈l then H k else H' k
   have ab:∀k,k∈l->Hm k=H k:=fun k u=>if_pos u
   have Z:∀k,k∉l->Hm k=H' k:=fun k u=>if_neg u
   refine hQ ax Hm a' w' (u af Hm ab Z) ⟨S'.unpin Hp,ap.merge aw (fun k r u=>?_),az.keep (S'.le_unpin Hp) (fG.refl S' w'),?_,?_,ar,av⟩
   . by_cases J:k∈l
     . right;rw[ac k J,<-ab k J];exact u
     . left;rw[<-Z k J];exact u
   . refine hG.trans (al.trans ⟨⟨F.le.ro, F.le.N, F.le.loc, F.le.sz⟩, fun k u => ⟨F.fz k (.inl u), fun ⟨i, r, hi, hb⟩ => by
       have ao:=E.rows i r (I i r hi).1;have e:S'.loc i=S.loc i:=F.le.loc i ao.lt;rw[show(S'.loc i)=S.loc i from e]at hb;exact E.free i r (I i r hi).1 k hb u⟩,F.os,F.tape,F.output,F.size,fun k u=>F.same k (.inl u),fun k u=>by
       rcases F.newro k u with h2|h2
       . exact .inl h2
       . exact .inr fun h3=>h2 (.inl h3)⟩)
   . intro k u h0
     have hH:=hN k u h0;by_cases J:k∈l
     . rw[ab k J];exact hH
     . rw[Z k J]
       exact ai k (Nat.lt_of_lt_of_le u hG.le.N) (by rw[ah k J];exact hH)) f (Array.replicate ops.size false) ρ T a w1 (S.pin Hp) am (h Hp T ac ah ak ae) an ay (aq.keep (S.le_pin Hp) (fG.refl S w1)) (Grow.refl _ _) (eY.refl _ _) hd hn w1 (Rw.refl w1)
 rw[au]at this;exact this
theorem ON{Q':Exit->Act->World->Prop}{id:Nat}{l:List Nat}{t:Mx}(hm:P.follows .mixedOrders=true)(aj:∀o∈ops,jK n o=true)(hl:∀k,k∈l->(H k).isSome=true)(hB:ME ops t=true)
   (h:∀Hp T:aH,(∀k,k∈l->Hp k=H k)->(∀k,k∉l->T k=H k)->(∀k,k∉l->Hp k=none)->(∀k,k∈l->T k=none)->mI P (bA P) (dN P) mt ops (mA l H K) Hp t ρ T)
   (hR:Rel n S0 w0 H0 ρ H a w) (hQ:∀ρ H a w,K ρ H->Rel n S0 w0 H0 ρ H a w->Q' .normal a w):(Code.region id ops true).wp P Q' a w:=by
 obtain⟨S,hS,hF,hG,hN,hd,hn⟩:=hR;simp only[ME,Bool.and_eq_true]at hB;obtain⟨hs,am⟩:=hB
 let Hp:aH:=fun k=>if k∈l then H k else none
 let T:aH:=fun k=>if k∈l then none else H k
 have ac:∀k,k∈l->Hp k=H k:=fun k u=>if_pos u
 have ak:∀k,k∉l->Hp k=none:=fun k u=>if_neg u
 have ah:∀k,k∉l->T k=H k:=fun k u=>if_neg u
 have ae:∀k,k∈l->T k=none:=fun k u=>if_pos u
 have I:∀k r,Hp k=some r->H k=some r/\k∈l:=fun k r u=>by
   by_cases h:k∈l
   . exact⟨by rw[<-ac k h];exact u,h⟩
   . rw[ak k h]at u;cases u
 have M:∀k r,T k=some r->H k=some r/\k∉l:=fun k r u=>by
   by_cases h:k∈l
   . rw[ae k h]at u;cases u
   . exact⟨by rw[<-ah k h];exact u,h⟩
 let w1:World:={ w with drawn:=w.drawn+1 }
 have E:St S w1 H:=hS.after (Nat.le_refl _) fun _ _=>rfl
 have al:Grow S w S w1:=hS.grow rfl rfl rfl (Nat.le_refl _) fun _ _=>rfl
 have aq:FR S w1 ρ a:=hF.keep S.le_refl (al.kept hS);have an:St (S.pin Hp) w1 T:=by
   refine⟨fun k u=>.inl (E.ro_fz k u),fun k u=>?_,fun k r u=>(E.rows k r (M k r u).1).keep (S.le_pin Hp) (fG.refl S w1) (fun _ _=>rfl),fun k r u g O hf=>?_,fun k k' r r' u aa ad g O ag=>E.disj k k' r r' (M k r u).1 (M k' r' aa).1 ad g O ag,E.tabs⟩
   . rcases u with h1|⟨i,r,hi,O⟩
     . exact E.fz_lt k h1
     . exact(E.rows i r (I i r hi).1).block_lt O
   . rcases hf with h1|⟨i,r',hi,ag⟩
     . exact E.free k r (M k r u).1 g O h1
     . exact E.disj k i r r' (M k r u).1 (I i r' hi).1 (fun e=>(M k r u).2 (e▸(I i r' hi).2)) g O ag
 have ax:Pin (S.pin Hp) w1 Hp:=by
   refine⟨fun k r u=>(E.rows k r (I k r u).1).keep (S.le_pin Hp) (fG.refl S w1) (fun _ _=>rfl),fun k r u g O=>⟨.inr ⟨k,r,u,O⟩,fun h1=>E.free k r (I k r u).1 g O (E.ro_fz g h1)⟩,fun k k' r r' u aa ad g O=>E.disj k k' r r' (I k r u).1 (I k' r' aa).1 ad g O⟩
 refine wp_region_any hm (rM (C:=Cb (S.pin Hp) w1) (R:=Rw) Rw.refl _ _ _ _ ?_);have:=iV (Q':=Q') (Hp:=Hp) (K:=mA l H K) (S0:=S.pin Hp) (w0:=w1) (H0:=T) aj hs (fun aw H' a' w' S' u av ap ay F ai ar au=>by
   have af:∀k,k∈l->H' k=none:=fun k u=>by
     obtain⟨r,hr⟩:=Option.isSome_iff_exists.1 (hl k u);exact ai k (hS.rows k r hr).lt (ae k u)
   let Hm:aH:=fun k=>if k∈l then H k else H' k
   have ab:∀k,k∈l->Hm k=H k:=fun k u=>if_pos u
   have Z:∀k,k∉l->Hm k=H' k:=fun k u=>if_neg u
   refine hQ aw Hm a' w' (u af Hm ab Z) ⟨S'.unpin Hp,ap.merge av (fun k r u=>?_),ay.keep (S'.le_unpin Hp) (fG.refl S' w'),?_,?_,ar,au⟩
   . by_cases J:k∈l
     . right;rw[ac k J,<-ab k J];exact u
     . left;rw[<-Z k J];exact u
   . refine hG.trans (al.trans ⟨⟨F.le.ro, F.le.N, F.le.loc, F.le.sz⟩, fun k u => ⟨F.fz k (.inl u), fun ⟨i, r, hi, hb⟩ => by
       have ao:=E.rows i r (I i r hi).1;have e:S'.loc i=S.loc i:=F.le.loc i ao.lt;rw[show(S'.loc i)=S.loc i from e]at hb;exact E.free i r (I i r hi).1 k hb u⟩,F.os,F.tape,F.output,F.size,fun k u=>F.same k (.inl u),fun k u=>by
       rcases F.newro k u with h2|h2
       . exact .inl h2
       . exact .inr fun h3=>h2 (.inl h3)⟩)
   . intro k u h0
     have hH:=hN k u h0;by_cases J:k∈l
     . rw[ab k J];exact hH
     . rw[Z k J]
       exact ai k (Nat.lt_of_lt_of_le u hG.le.N) (by rw[ah k J];exact hH)) t ops.size (Array.replicate ops.size false) ρ T a w1 (S.pin Hp) am (h Hp T ac ah ak ae) an ax (aq.keep (S.le_pin Hp) (fG.refl S w1)) (Grow.refl _ _) (eY.refl _ _) hd hn w1 (Rw.refl w1)
 exact this
end
end Go.Aw
end
section
namespace Go.Aw
open Go.RowKit
section
variable{P:Program}{n:Nat}{S0:Sg}{w0:World}{H0:aH}{mt:Nat->Bool}{ops:Array Oper}{K:Env->aH->Prop}{ρ:Env}{H:aH}{a:Act}{w:World}{S:Sg}
theorem Gj(u:∀o∈ops,jK n o=true){Q':Exit->Act->World->Prop}(J:∀ρ H a w,K ρ H->Rel n S0 w0 H0 ρ H a w->Q' .normal a w):
   ∀(l:List Oper) (ρ:Env) (H:aH) (a:Act) (w:World),(∀o∈l,jK n o=true)->vE P (bA P) (dN P) mt false ops K l ρ H->Rel n S0 w0 H0 ρ H a w->wpList P ops Q' l a w
 | [],ρ,H,a,w,_,h,hR=>J ρ H a w h hR
 | o::rest,ρ,H,a,w,hl,h,hR=>by
   obtain⟨S,hS,hF,Z,hN,T,hn⟩:=hR;have I:=uT (K':=wpList P ops Q' rest) (Q':=Q') u hS hF Z hN T hn (hl o (by simp))
     (fun F H' a' w' hk O=>Gj u J rest F H' a' w' (fun o M=>hl o (by simp[M])) hk O) h
   unfold wpList;by_cases E:Region.wanted o (yielded ops a.tmps)=true
   . rw[if_pos E];exact .inl (I.1 E)
   . rw[if_neg E];exact I.2 (by simpa using E)
def Cls(S:Sg)(H:aH)(w1 w:World):Prop:=
 w.os=w1.os/\w.tape=w1.tape/\w.output=w1.output/\w1.heap.size<=w.heap.size/\∀k,k<w1.heap.size->w.heap[k]?=w1.heap[k]?
theorem Cls.st{w1:World}(u:St S w1 H)(h:Cls S H w1 w):St S w H:=u.after h.2.2.2.1 h.2.2.2.2
theorem Cls.grow{w1:World}(u:St S w1 H)(h:Cls S H w1 w):Grow S w1 S w:=u.grow h.1 h.2.1 h.2.2.1 h.2.2.2.1 h.2.2.2.2
theorem Cls.agree{w1:World}(u:St S w1 H)(h:Cls S H w1 w):Agree S H w1 w:=
 ⟨(h.grow u).kept u,fun k r F g E=>h.2.2.2.2 g ((u.rows k r F).block_lt E)⟩
theorem OH{P:Program}{o:Oper}{a:Act}{w w1:World}{v:Value}(E:Cls S H w1 w)(h:o.quietAt P a (Rw w) w v):o.quietAt P a (Cls S H w1) w v:=by
 unfold Oper.quietAt at *;generalize (execOp a.eval o).run P w=r at *;cases r with
 | ok m w'=>
   cases m <;> simp only[Oper.quietUpon]at h |-
   case value u=>exact h
   case skip=>exact h
   case enter f args=>exact⟨h.1,h.2.mono fun e w2 ⟨I,M,Z,T,J,O⟩=>⟨I,M.trans E.1,Z.trans E.2.1,T.trans E.2.2.1,Nat.le_trans E.2.2.2.1 J,fun k F=>(O k (Nat.lt_of_lt_of_le F E.2.2.2.1)).trans (E.2.2.2.2 k F)⟩⟩
 | halt x w'=>simp only[Oper.quietUpon]at h
theorem Fj{w1:World}(E:∀o∈ops,jK n o=true)(M:St S w1 H):∀(l:List Oper) (ρ:Env) (a:Act),(∀o∈l,jK n o=true)->vE P (bA P) (dN P) mt true ops K l ρ H->FR S w1 ρ a->a.defers=[]->a.tmps.size=n ->
   wpQuiet P ops (Cls S H w1) (fun F=>∃u,K u H/\FR S w1 u F/\F.defers=[]/\F.tmps.size=n) l a
 | [],ρ,a,_,h,hF,hd,hn=>⟨ρ,h,hF,hd,hn⟩
 | o::rest,ρ,a,hl,h,hF,hd,hn=>by
   obtain⟨z,hz,h1,T⟩:=tX (CC:=Cls S H w1) (fun w I=>⟨I.st M,I.agree M⟩) E M hF hn (hl o (by simp)) h;have next:∀v,rep S w1 z v->wpQuiet P ops (Cls S H w1) (fun F=>∃u,K u H/\FR S w1 u F/\F.defers=[]/\F.tmps.size=n) rest (a.put o.dst v):=fun v O=>
     Fj E M rest _ _ (fun o Z=>hl o (by simp[Z])) hz (FR.put hF O) (by rw[mM];exact hd) (by rw[tY];exact hn)
   unfold wpQuiet;by_cases J:Region.wanted o (yielded ops a.tmps)=true
   . rw[if_pos J]
     obtain⟨v,O,hq⟩:=h1 J;exact⟨v,fun w I=>OH I (hq w I),next v O⟩
   . rw[if_neg J]
     exact next _ (T (by simpa using J))
end
theorem wB{P:Program}{ops:Array Oper}{C:World->Prop}{Q Q':Act->Prop}(E:∀a,Q a->Q' a):∀(l:List Oper) (a:Act),wpQuiet P ops C Q l a->wpQuiet P ops C Q' l a
 | [],a,h=>E a h
 | o::rest,a,h=>by
   unfold wpQuiet at h |-;split
   . rename_i u
     rw[if_pos u]at h;exact Oper.quiet_mono (fun I F=>wB E rest I F) h
   . rename_i u
     rw[if_neg u]at h;exact wB E rest _ h
def yH(n:Nat):Code->Bool
 | .region _ ops _=>ops.all (jK n)
 | .seq a b=>yH n a&&yH n b
 | .cond c a b=>opB n c&&(yH n a&&yH n b)
 | .block _ c=>yH n c
 | .loop c=>yH n c
 | .scope c=>yH n c
 | _=>true
def TC(n:Nat)(S0:Sg)(w0:World)(H0:aH)(Q:Ex->Env->aH->Prop):Exit->Act->World->Prop
 | .normal,a,w=>∃ρ H,Q .normal ρ H/\Rel n S0 w0 H0 ρ H a w
 | .exit id,a,w=>∃ρ H,Q (.exit id) ρ H/\Rel n S0 w0 H0 ρ H a w
 | .ret,a,w=>∃ρ H,Q .ret ρ H/\Rel n S0 w0 H0 ρ H a w
 | _,_,_=>False
theorem mS{P:Program}{n:Nat}{S0:Sg}{w0:World}{H0:aH}{mt:Nat->Bool}(T:P.follows .mixedOrders=true):∀(c:Code) (Q:Ex->Env->aH->Prop) (ρ:Env) (H:aH) (a:Act) (w:World),yH n c=true ->
   awp P (bA P) (dN P) mt c Q ρ H->Rel n S0 w0 H0 ρ H a w->c.wp P (TC n S0 w0 H0 Q) a w
 | .skip,Q,ρ,H,a,w,_,h,E=>wp_skip ⟨ρ,H,h,E⟩
 | .region id ops false,Q,ρ,H,a,w,hb,h,E=>by
   rw[E7]at h;have u:∀o∈ops,jK n o=true:=fun o ho=>Array.all_eq_true_iff_forall_mem.1 hb o ho
   exact wp_region_list (Gj u (fun ρ H a w F O=>⟨ρ,H,F,O⟩) ops.toList ρ H a w (fun o ho=>u o (Array.mem_toList_iff.1 ho)) h E)
 | .region id ops true,Q,ρ,H,a,w,hb,h,E=>by
   rw[NR]at h;have u:∀o∈ops,jK n o=true:=fun o ho=>Array.all_eq_true_iff_forall_mem.1 hb o ho
   rcases h with⟨_,ac,h⟩|⟨hB,h⟩|⟨f,hB,h⟩|⟨l,f,hl,hB,h⟩|⟨l,t,hl,hB,h⟩
   . obtain⟨S,hS,hF,hG,hN,hd,hn⟩:=E
     let w1:World:={ w with drawn:=w.drawn+1 }
     have Z:St S w1 H:=hS.after (Nat.le_refl _) fun _ _=>rfl
     have ab:Grow S w S w1:=hS.grow rfl rfl rfl (Nat.le_refl _) fun _ _=>rfl
     have af:FR S w1 ρ a:=hF.keep S.le_refl (ab.kept hS);refine wp_region_quiet (C:=Cls S H w1) T ac ⟨rfl,rfl,rfl,Nat.le_refl _,fun _ _=>rfl⟩ ?_;have:=Fj u Z ops.toList ρ a (fun o ho=>u o (Array.mem_toList_iff.1 ho)) h af hd hn;refine wB (fun a' ⟨M,F,aj,ai,ad⟩ w' hc=>?_) ops.toList a this;exact⟨M,H,F,S,hc.st Z,aj.keep S.le_refl ((hc.grow Z).kept Z),hG.trans (ab.trans (hc.grow Z)),hN,ai,ad⟩
   . exact Qy T u hB h E fun ρ H a w F O=>⟨ρ,H,F,O⟩
   . exact Ud T u hB h E fun ρ H a w F O=>⟨ρ,H,F,O⟩
   . exact Pa T u hl hB h E fun ρ H a w F O=>⟨ρ,H,F,O⟩
   . exact ON T u hl hB h E fun ρ H a w F O=>⟨ρ,H,F,O⟩
 | .seq c d,Q,ρ,H,a,w,hb,h,E=>by
   simp only[yH,Bool.and_eq_true]at hb;rw[Re]at h;refine wp_seq (wp_mono (mS T c _ ρ H a w hb.1 h E) fun e a' w' J=>?_);cases e <;> simp only[TC,Exit.then]at J |-
   case normal=>obtain⟨M,H',F,O⟩:=J;exact mS T d Q M H' a' w' hb.2 F O
   case exit id=>exact J
   case ret=>exact J
 | .cond c x y,Q,ρ,H,a,w,hb,h,E=>by
   simp only[yH,Bool.and_eq_true]at hb;rw[MJ]at h;unfold yR at h;split at h
   . rename_i t ht
     obtain⟨S,hS,hF,hG,hN,hd,hn⟩:=E;have e:=cO hF (x:=c) (hn▸hb.1);rw[ht]at e;simp only[rep]at e;have E:Rel n S0 w0 H0 ρ H a w:=⟨S,hS,hF,hG,hN,hd,hn⟩;exact wp_cond_split e (fun ht=>mS T x Q ρ H a w hb.2.1 (h.1 ht) E) (fun ht=>mS T y Q ρ H a w hb.2.2 (h.2 ht) E)
   . exact h.elim
 | .block id c,Q,ρ,H,a,w,hb,h,E=>by
   rw[IF]at h;refine wp_block (wp_mono (mS T c _ ρ H a w hb h E) fun e a' w' J=>?_);cases e <;> simp only[TC,Exit.inBlock]at J |-
   case normal=>exact J
   case ret=>exact J
   case exit i=>
     obtain⟨M,H',F,O⟩:=J;simp only[Ex.blk]at F;by_cases e:i=id
     . rw[if_pos e]at F |-;exact⟨M,H',F,O⟩
     . rw[if_neg e]at F |-;exact⟨M,H',F,O⟩
 | .loop c,Q,ρ,H,a,w,hb,h,E=>by
   rw[Nj]at h;obtain⟨I,μ,h0,aa⟩:=h;refine wp_loop_ghost (fun m a w=>∃ρ H,I ρ H/\μ ρ H=m/\Rel n S0 w0 H0 ρ H a w) (μ ρ H) ⟨ρ,H,h0,rfl,E⟩ ?_;rintro m a' w' ⟨M,H',hI,rfl,ae⟩;refine wp_mono (mS T c _ M H' a' w' hb (aa M H' hI) ae) fun e a2 w2 J=>?_
   cases e <;> simp only[TC,Exit.then]at J |-
   case normal=>obtain⟨ah,H2,⟨F,ag⟩,O⟩:=J;exact⟨_,ag,ah,H2,F,rfl,O⟩
   case exit id=>exact J
   case ret=>exact J
 | .exit id,Q,ρ,H,a,w,_,h,E=>wp_exit ⟨ρ,H,h,E⟩
 | .ret,Q,ρ,H,a,w,_,h,E=>wp_ret ⟨ρ,H,h,E⟩
 | .rangeFunc ..,_,_,_,_,_,_,h,_=>by simp[awp]at h
 | .scope c,Q,ρ,H,a,w,hb,h,E=>by
   rw[I1]at h;refine wp_scope_straight (wp_mono (mS T c _ ρ H a w hb h E) fun e a' w' J=>?_);cases e <;> simp only[TC,Exit.noGoto]at J |-
   case normal=>exact J
   case exit id=>exact J
   case ret=>exact J
 | .label _,Q,ρ,H,a,w,_,h,E=>wp_label ⟨ρ,H,h,E⟩
 | .goto _,_,_,_,_,_,_,h,_=>by simp[awp]at h
 | .refuse _,_,_,_,_,_,_,h,_=>by simp[awp]at h
def Dh(P:Program)(ρ:Env)(H:aH):List ResultVar->(List AV->Prop)->Prop
 | [],K=>K []
 | .tmp t::r,K=>Dh P ρ H r fun l=>K (ρ t::l)
 | .cell t ty::r,K=>match ldT P ty with
   | some l=>nP none H l (ρ t) fun x=>Dh P ρ H r fun xs=>K (x::xs)
   | none=>False
def Sc(R:AV->Prop):List AV->Prop
 | [x]=>R x
 | l=>R (.tup l)
def GV(P:Program)(rs:List ResultVar)(R:AV->aH->Prop):Ex->Env->aH->Prop
 | .exit _,_,_=>False
 | _,ρ,H=>Dh P ρ H rs (Sc fun x=>R x H)
def adX(n:Nat):ResultVar->Bool
 | .tmp t=>decide (t<n)
 | .cell t _=>decide (t<n)
def Ae(fn:Func)(c:Code)(m:Nat):Bool:=yH fn.ntmps c&&fn.results.toList.all (adX fn.ntmps)&&decide (m<=fn.ntmps)
section
variable{P:Program}{S:Sg}{H:aH}{w:World}{ρ:Env}{a:Act}
theorem Tt{G:Option Bool}{l:Option Nat}{x:AV}{K:AV->Prop}(h:nP G H l x K){u:Value}(E:rep S w x u):∃F,u=.pointer (some F):=by
 unfold nP at h;split at h
 . simp only[rep]at E
   obtain⟨b,o,rfl,_⟩:=E;exact⟨_,rfl⟩
 . simp only[rep]at E
   obtain⟨_,g,m,c,_,rfl⟩:=E;exact⟨_,rfl⟩
 . exact h.elim
def Kp(tmps:Array Value):ResultVar->Sem Value
 | .tmp t=>pure (tmps.getD t undef)
 | .cell b t=>do loadVar t (<-asAddr (tmps.getD b undef))
theorem Pe(fn:Func)(u:Array Value):results fn u=(do
   let vs <-fn.results.mapM (Kp u)
   pure (if h:vs.size=1 then vs[0]else .tuple vs)):=by
 unfold results
 congr 1
theorem yW(M:yV S w H)(F:FR S w ρ a):∀(rs:List ResultVar) (K:List AV->Prop),(∀r∈rs,adX a.tmps.size r=true)->Dh P ρ H rs K ->
   ∃l vs,K l/\(rs.mapM (Kp a.tmps)).run P w=.ok vs w/\bG S w l vs
 | [],K,_,h=>⟨[],[],h,by simp,by simp[bG]⟩
 | .tmp t::r,K,hb,h=>by
   simp only[Dh]at h;obtain⟨l,vs,h1,J,T⟩:=yW M F r _ (fun x O=>hb x (by simp[O])) h;have I:t<a.tmps.size:=by simpa[adX]using hb (.tmp t) (by simp)
   refine⟨_,a.tmps.getD t undef::vs,h1,?_,?_⟩
   . rw[List.mapM_cons]
     simp only[Kp,Sem.run_bind,Sem.run_pure,Result.andThen_ok];rw[J];rfl
   . simp only[bG]
     exact⟨_,_,rfl,F t I,T⟩
 | .cell t ty::r,K,hb,h=>by
   simp only[Dh]at h;split at h
   . rename_i l hl
     have I:t<a.tmps.size:=by simpa[adX]using hb (.cell t ty) (by simp)
     obtain⟨z,hz,Z⟩:=DG (S:=S) (w:=w) hl M h;obtain⟨v,hv,E⟩:=Z trivial _ (F t I);obtain⟨ad,e⟩:=Tt h (F t I);have u:=E w (Agree.refl S H w);rw[e]at u;simp only[Instr.loadAt,Instr.sureAddr,pure_bind]at u;obtain⟨l',vs,h1,J,T⟩:=yW M F r _ (fun x O=>hb x (by simp[O])) hz;refine⟨_,v::vs,h1,?_,?_⟩
     . have ha:(asAddr (a.tmps.getD t undef)).run P w=.ok ad w:=by rw[e];rfl
       rw[List.mapM_cons];simp only[Kp,Sem.run_bind,ha,Sem.run_pure,Result.andThen_ok,u];rw[J];rfl
     . simp only[bG]
       exact⟨_,_,rfl,hv,T⟩
   . exact h.elim
theorem bA.body{f:FuncId}{fn:Func}{c:Code}{args:List AV}{R:AV->aH->Prop}(mt:Nat->Bool)(hm:P.follows .mixedOrders=true)(hf:P.funcs[f]?=some fn)(hb:fn.body=some c)(hc:Ae fn c args.length=true)
   (h:awp P (bA P) (dN P) mt c (GV P fn.results.toList R) (D9 args) H):bA P f args H R:=by
 intro S w vals hS ha;simp only[Ae,Bool.and_eq_true,decide_eq_true_eq]at hc;obtain⟨⟨J,T⟩,ai⟩:=hc;have ac:=gQ _ _ ha;refine calls_of_wp hf hb (wp_mono (mS (n:=fn.ntmps) (S0:=S) (w0:=w) (H0:=H) hm c _ _ H _ w J h ⟨S,hS,?_,Grow.refl S w,eY.refl _ _,rfl,?_⟩) ?_)
 . intro t ht
   by_cases e:t<args.length
   . obtain⟨u,h1,F⟩:=BC args vals t ha e
     have hu:(vals.toArray++Array.replicate (fn.ntmps-vals.toArray.size) undef).getD t undef=u:=by
       have Z:t<vals.length:=by omega
       have:vals[t]=u:=by rw[List.getElem?_eq_getElem Z]at h1;injection h1
       simp[Array.getD_eq_getD_getElem?,Array.getElem?_append,Z,this]
     simp only[D9];rw[hu];exact F
   . simp only[D9,List.getD,List.getElem?_eq_none (by omega:args.length<=t),Option.getD_none]
     simp only[rep]
 . simp only[Array.size_append,List.size_toArray,Array.size_replicate,ac]
   omega
 . intro e a' w' hq
   have aa:∀E H',Dh P E H' fn.results.toList (Sc fun x=>R x H')->Rel fn.ntmps S w H E H' a' w'->a'.defers=[]/\∃v,(results fn a'.tmps).run P w'=.ok v w'/\ahO S w H R (.returned v) w':=by
     rintro E H' h1 ⟨S',I,ah,O,M,af,ab⟩;refine⟨af,?_⟩;obtain⟨l,vs,F,h3,h4⟩:=yW (P:=P) I.rows ah fn.results.toList _ (fun r hr=>by rw[ab];exact List.all_eq_true.1 T r hr) h1;have hr:(results fn a'.tmps).run P w'=.ok (if h:vs.toArray.size=1 then vs.toArray[0]else .tuple vs.toArray) w':=by
       rw[Pe,Array.mapM_eq_mapM_toList];simp only[Sem.run_bind,Sem.run_map];rw[h3];simp only[Result.andThen_ok,Sem.run_pure]
     refine⟨_,hr,?_⟩;unfold Sc at F;split at F
     . rename_i x
       simp only[bG]at h4;obtain⟨u,t,rfl,h5,rfl⟩:=h4;exact⟨_,x,H',S',rfl,F,I,by simpa using h5,O,M⟩
     . rename_i ae
       have ad:=gQ _ _ h4;have ag:¬vs.toArray.size=1:=by
         intro e;have:l.length=1:=by rw[<-ad];simpa using e
         match l,this with
         | [x],_=>exact ae x rfl
       rw[dif_neg ag];exact⟨_,_,H',S',rfl,F,I,by simp only[rep];exact⟨vs,rfl,h4⟩,O,M⟩
   cases e <;> simp only[TC,bodyPost]at hq |-
   case normal=>obtain⟨E,H',h1,F⟩:=hq;exact aa E H' h1 F
   case ret=>obtain⟨E,H',h1,F⟩:=hq;exact aa E H' h1 F
   case exit id=>obtain⟨E,H',h1,F⟩:=hq;exact h1.elim
theorem RC.body{f:FuncId}{fn:Func}{c:Code}{args:List AV}{R:AV->aH->Prop}(mt:Nat->Bool)(I:P.follows .mixedOrders=true)(M:P.funcs[f]?=some fn)(u:fn.body=some c)(E:Ae fn c args.length=true)
 (h:awp P (bA P) (dN P) mt c (GV P fn.results.toList R) (D9 args) bY):RC P f args R:=fun S w vals F _ J=>bA.body mt I M u E h S w vals F J
theorem PC.body{f:FuncId}{fn:Func}{c:Code}{args:List AV}{r:AV}(mt:Nat->Bool)(F:P.follows .mixedOrders=true)(I:P.funcs[f]?=some fn)(E:fn.body=some c)(u:Ae fn c args.length=true)
 (h:awp P (bA P) (dN P) mt c (GV P fn.results.toList fun x H'=>Conv H' x r) (D9 args) bY):PC P f args r:=RC.conv (RC.body mt F I E u h)
theorem NC.body{f:FuncId}{fn:Func}{c:Code}{args:List AV}{row:Row}{u:Nat->AV}(mt:Nat->Bool)(I:P.follows .mixedOrders=true)(J:P.funcs[f]?=some fn)(E:fn.body=some c)(F:Ae fn c args.length=true)
 (h:awp P (bA P) (dN P) mt c (GV P fn.results.toList fun x H'=>∃k,x=u k/\H' k=some row) (D9 args) bY):NC P f args row u:=RC.body mt I J E F h
theorem PC.q{f:FuncId}{args:List AV}{r:AV}(h:PC P f args r)(u:(fv r).isSome=true):dN P f args H r:=.inl ⟨args,ConvL.refl args,h,u⟩
theorem PC.qn{f:FuncId}{args:List AV}{r:AV}(h:PC P f args r):dN P f args H (.nf r):=.inr ⟨r,rfl,h⟩
theorem dN.use{f:FuncId}{args:List AV}{r:AV}{K:AV->aH->Prop}(h:A5 P f args H r)(u:K r H):bA P f args H K:=A5.use h u
end
end Go.Aw
end
