import Derived.StillTail
import Derived.Deep.Quiet
import Derived.Scope
import Derived.Test.YtohmomanmikphaaGreatDoorPa04
set_option linter.unusedSimpArgs false
set_option linter.unusedVariables false
set_option maxRecDepth 100000
section
namespace Go.Aw
open Go.RowKit
section
variable{P:Program}{ops:Array Oper}{md:Region.Mode}{C:World->Prop}{R:World->World->Prop}{Q':Exit->Act->World->Prop}
def L4(P:Program)(K:Value->World->Prop):Result Next->Prop
 | .ok (.value v) w'=>K v w'
 | .ok .skip w'=>K undef w'
 | .ok (.enter f args) w'=>Calls P f args w' fun e w''=>∃v,e=.returned v/\K v w''
 | .ok (.row row args) w'=>Rows P row args w' K
 | _=>False
def gAt(P:Program)(o:Oper)(a:Act)(w:World)(K:Value->World->Prop):Prop:=L4 P K ((execOp a.eval o).run P w)
def gOp(P:Program)(ops:Array Oper)(i:Nat)(K:Act->World->Prop)(a:Act)(w:World):Prop:=
 match ops[i]? with
 | none=>False
 | some o=>if Region.wanted o (yielded ops a.tmps)=true then gAt P o a w (fun v w'=>K (a.put o.dst v) w')else K (a.put o.dst undef) w
theorem qK{K K':Value->World->Prop}(h:∀v w,K v w->K' v w){r:Result Next}(E:L4 P K r):L4 P K' r:=by
 cases r with
 | ok n w'=>
   cases n <;> simp only[L4]at E |-
   case value u=>exact h _ _ E
   case skip=>exact h _ _ E
   case enter f args=>exact E.mono fun e J ⟨v,I,F⟩=>⟨v,I,h _ _ F⟩
   case row row args=>exact E.mono h
 | halt x w'=>simp only[L4]at E
theorem FT{i:Nat}{a:Act}{w:World}{K K':Act->World->Prop}(h:∀a w,K a w->K' a w)(E:gOp P ops i K a w):gOp P ops i K' a w:=by
 unfold gOp at *;split
 . rename_i I;simp only[I]at E
 . rename_i o I
   simp only[I]at E;split
   . rename_i F;rw[if_pos F]at E;exact qK (fun v w' J=>h _ _ J) E
   . rename_i F;rw[if_neg F]at E;exact h _ _ E
theorem XA{o:Oper}{a:Act}{w:World}{K:Act->World->Prop}(h:gAt P o a w (fun v w'=>K (a.put o.dst v) w')):o.wp P a w K Q':=by
 unfold Oper.wp;unfold gAt at h;generalize (execOp a.eval o).run P w=r at *;cases r with
 | ok n w'=>
   cases n <;> simp only[L4]at h <;> simp only[Oper.upon]
   case value u=>exact h
   case skip=>exact h
   case enter f args=>exact h.mono fun e I ⟨v,F,E⟩=>by subst F;exact E
   case row row args=>exact h
 | halt x w'=>simp only[L4]at h
theorem OZ{i:Nat}{a:Act}{w:World}{K:Act->World->Prop}(h:gOp P ops i K a w):wpOp P ops Q' i K a w:=by
 unfold gOp at h;unfold wpOp;split
 . rename_i F;simp only[F]at h
 . rename_i o F
   simp only[F]at h;split
   . rename_i E;rw[if_pos E]at h;exact .inl (XA h)
   . rename_i E;rw[if_neg E]at h;exact h
theorem MF{o:Oper}{a:Act}{w:World}{v:Value}{D:World->Prop}(I:D w)(h:o.quietAt P a D w v):gAt P o a w (fun u w'=>u=v/\D w'):=by
 unfold Oper.quietAt at h;unfold gAt;generalize (execOp a.eval o).run P w=r at *;cases r with
 | ok n w'=>
   cases n <;> simp only[Oper.quietUpon]at h <;> simp only[L4]
   case value u=>obtain⟨E,F⟩:=h;rw[E];exact⟨F,I⟩
   case skip=>obtain⟨E,F⟩:=h;rw[E];exact⟨F.symm,I⟩
   case enter f args=>obtain⟨E,O⟩:=h;rw[E];exact O.mono fun e V ⟨J,U⟩=>⟨v,J,rfl,U⟩
 | halt x w'=>simp only[Oper.quietUpon]at h
def jO(P:Program)(md:Region.Mode)(ops:Array Oper)(C:World->Prop)(R:World->World->Prop)(Q':Exit->Act->World->Prop):Nat->Array Bool->Act->World->Prop
 | 0,listed,a,w=>Region.ready md ops listed=[]/\Q' .normal a w
 | f+1,listed,a,w=>Region.ready md ops listed≠[] /\
   ∀i∈Region.ready md ops listed,gOp P ops i (fun a' w'=>C w'/\∀w2,R w' w2->jO P md ops C R Q' f (listed.setIfInBounds i true) a' w2) a w
theorem tP(E:∀w,R w w):∀(f:Nat) (listed:Array Bool) (a:Act) (w:World),jO P md ops C R Q' f listed a w->wpAny P md ops Q' f listed a w
 | 0,_,_,_,h=>h
 | f+1,_,_,_,h=>⟨fun h0=>absurd h0 h.1,fun i hi=>OZ (FT (fun I w' F=>tP E f _ _ _ (F.2 w' (E w'))) (h.2 i hi))⟩
def YQ(P:Program)(ops:Array Oper)(C:World->Prop)(R:World->World->Prop)(o:Oper)(v:Value)(a:Act):Prop:=
 (Region.wanted o (yielded ops a.tmps)=true/\∀w,C w->o.quietAt P a (R w) w v)\/(Region.wanted o (yielded ops a.tmps)=false/\v=undef)
theorem YQ.of_same{o:Oper}{v:Value}{a E:Act}(I:YQ P ops C R o v a)(J:execOp E.eval o=execOp a.eval o)
   (F:Region.wanted o (yielded ops E.tmps)=Region.wanted o (yielded ops a.tmps)):YQ P ops C R o v E:=by
 unfold YQ Oper.quietAt at *;rw[J,F];exact I
theorem aiD{j:Nat}{E F:Oper}{v:Value}(hj:ops[j]?=some F)(I:E.apart ops F=true)
   (O:∀cs b,E.op≠.select cs b) (U:∀cs b,F.op≠.select cs b) {K:Act->World->Prop} {a:Act} {w:World}
   (Z:YQ P ops C R E v a) (h:gOp P ops j K (a.put E.dst v) w):
   gOp P ops j (fun Y w'=>YQ P ops C R E v Y/\K (Y.put E.dst v) w') a w:=by
 obtain⟨h1,V,X⟩:=Oper.apart_spec I;have keep:∀u,YQ P ops C R E v (a.put F.dst u):=fun u=>
   Z.of_same (execOp_put E O a F.dst u X) (wanted_put E a F.dst u X)
 unfold gOp at *;simp only[hj]at *;rw[wanted_put F a E.dst v h1]at h;split
 . rename_i J
   rw[if_pos J]at h;unfold gAt at *;rw[execOp_put F U a E.dst v h1]at h;exact qK (fun u w' hk=>⟨keep u,by rw[<-Act.put_comm a v u V];exact hk⟩) h
 . rename_i J
   rw[if_neg J]at h;exact⟨keep _,by rw[<-Act.put_comm a v undef V];exact h⟩
theorem KH{i:Nat}{F:Oper}{v:Value}{a:Act}{w:World}(hi:ops[i]?=some F)(O:C w)(I:∀w,R w w)(J:YQ P ops C R F v a){K:Act->World->Prop}(h:∀w',R w w'->K (a.put F.dst v) w'):
   gOp P ops i K a w:=by
 unfold gOp;simp only[hi];rcases J with⟨E,V⟩|⟨E,rfl⟩
 . rw[if_pos E]
   exact qK (fun u w' ⟨e,U⟩=>by subst e;exact h w' U) (MF (I w) (V w O))
 . rw[if_neg (by simp[E])]
   exact h w (I w)
theorem jV{i:Nat}{oi:Oper}{v:Value}(hi:ops[i]?=some oi)(Y:∀(j:Nat) (o:Oper) cs b,ops[j]?=some o->o.op≠.select cs b)
   (hR:∀w,R w w) (hT:∀w w' ag,R w w'->R w' ag->R w ag) (aa:∀w w',C w->R w w'->C w'):
   ∀(f:Nat) (E:Array Bool) (a:Act) (w:World),C w ->
     (∀j oj,ops[j]?=some oj->j≠i->E.getD j true=false->(∀e∈oj.after,Region.binds md e=true->e.on≠i)->oi.apart ops oj=true) ->
     i∈Region.ready md ops E->YQ P ops C R oi v a ->
     (∀X,R w X->jO P md ops C R Q' f (E.setIfInBounds i true) (a.put oi.dst v) X)->jO P md ops C R Q' (f+1) E a w:=by
 intro f;induction f with
 | zero=>
   intro E a w hC _ hr hy H;refine⟨fun h=>(by rw[h]at hr;cases hr),fun j hj=>?_⟩;by_cases F:j=i
   . subst F;exact KH hi hC hR hy fun w' J=>⟨aa _ _ hC J,fun X V=>H X (hT _ _ _ J V)⟩
   . have:=ready_mono hj F
     rw[(H w (hR w)).1]at this;cases this
 | succ f ih=>
   intro E a w hC I hr hy H;refine⟨fun h=>(by rw[h]at hr;cases hr),fun j hj=>?_⟩;by_cases F:j=i
   . subst F;exact KH hi hC hR hy fun w' J=>⟨aa _ _ hC J,fun X V=>H X (hT _ _ _ J V)⟩
   . have h1:=(H w (hR w)).2 j (ready_mono hj F)
     obtain⟨U,oj,Z,ac⟩:=mem_ready.1 hj;have ae:∀e∈oj.after,Region.binds md e=true->e.on≠i:=fun e he hb aj=>by
       have h1:=ac e he hb;have h0:=(mem_ready.1 hr).1;rw[aj]at h1;rcases Nat.lt_or_ge i E.size with h'|h'
       . simp[h']at h0 h1;rw[h0]at h1;cases h1
       . simp[Array.getElem?_eq_none h']at h1
     have V:=aiD Z (I j oj Z F U ae) (fun cs b=>Y i oi cs b hi) (fun cs b=>Y j oj cs b Z) hy h1;have O : ∀ k ok, ops[k]? = some ok -> k ≠ i -> (E.setIfInBounds j true).getD k true = false ->
         (∀e∈ok.after,Region.binds md e=true->e.on≠i)->oi.apart ops ok=true:=fun k ok hk ai af ah=>by
       refine I k ok hk ai ?_ ah;by_cases ad:j=k
       . subst ad;exact U
       . rw[getD_set_ne true ad]at af;exact af
     refine FT (fun a' w' ⟨ak,ab,hk⟩=>⟨ab,fun X V=>ih (E.setIfInBounds j true) a' X (aa _ _ ab V) O (ready_mono hr (Ne.symm F)) ak fun w3 h3=>?_⟩) V;rw[Array.setIfInBounds_comm _ _ F];exact hk w3 (hT _ _ _ V h3)
end
def Rw(w w':World):Prop:=w'.os=w.os/\w'.tape=w.tape/\w'.output=w.output/\w.heap.size<=w'.heap.size/\∀k,k<w.heap.size->w'.heap[k]?=w.heap[k]?
theorem Rw.refl(w:World):Rw w w:=⟨rfl,rfl,rfl,Nat.le_refl _,fun _ _=>rfl⟩
theorem Rw.trans{w w' F:World}(h:Rw w w')(E:Rw w' F):Rw w F:=
 ⟨E.1.trans h.1,E.2.1.trans h.2.1,E.2.2.1.trans h.2.2.1,Nat.le_trans h.2.2.2.1 E.2.2.2.1,fun k I=>(E.2.2.2.2 k (Nat.lt_of_lt_of_le I h.2.2.2.1)).trans (h.2.2.2.2 k I)⟩
def Cb(S:Sg)(wb w:World):Prop:=w.os=wb.os/\w.tape=wb.tape/\w.output=wb.output/\wb.heap.size<=w.heap.size/\∀k,S.fz k->w.heap[k]?=wb.heap[k]?
theorem Cb.rw{S:Sg}{wb w w':World}{H:aK}(I:St S wb H)(h:Cb S wb w)(E:Rw w w'):Cb S wb w':=
 ⟨E.1.trans h.1,E.2.1.trans h.2.1,E.2.2.1.trans h.2.2.1,Nat.le_trans h.2.2.2.1 E.2.2.2.1,fun k F=>(E.2.2.2.2 k (Nat.lt_of_lt_of_le (I.fz_lt k F) h.2.2.2.1)).trans (h.2.2.2.2 k F)⟩
theorem Rw.cb{S:Sg}{wb w:World}{H:aK}(E:St S wb H)(h:Rw wb w):Cb S wb w:=⟨h.1,h.2.1,h.2.2.1,h.2.2.2.1,fun k F=>h.2.2.2.2 k (E.fz_lt k F)⟩
theorem Cb.st{S:Sg}{wb w:World}{H:aK}(F:St S wb H)(h:Cb S wb w):St S w bV:=
 ⟨F.ro_fz,fun k E=>Nat.lt_of_lt_of_le (F.fz_lt k E) h.2.2.2.1,fun k r E=>by simp[bV]at E,fun k r E=>by simp[bV]at E,fun k k' r r' E=>by simp[bV]at E,F.tabs.keep S.le_refl (fun k E=>h.2.2.2.2 k (F.ro_fz k E))⟩
theorem Cb.kept{S:Sg}{wb w:World}{H:aK}(E:St S wb H)(h:Cb S wb w):gE S wb w:=fun k F=>h.2.2.2.2 k (E.ro_fz k F)
theorem Cb.agree{S:Sg}{wb w:World}{H:aK}(F:St S wb H)(h:Cb S wb w):Agree S bV wb w:=⟨h.kept F,fun k r E=>by simp[bV]at E⟩
theorem Grow.cb{S S':Sg}{wb w:World}(h:Grow S wb S' w):Cb S wb w:=⟨h.os,h.tape,h.output,h.size,h.same⟩
section
variable{P:Program}{n:Nat}{S0:Sg}{w0:World}{H0:aK}{mt:Nat->Bool}{ops:Array Oper}{K:Env->aK->Prop}{ρ:Env}{H:aK}{a:Act}{w:World}
theorem Rel.rw{w':World}(h:Rel n S0 w0 H0 ρ H a w)(E:Rw w w'):Rel n S0 w0 H0 ρ H a w':=by
 obtain⟨S,F,V,O,U,X,J⟩:=h;have I:=F.grow E.1 E.2.1 E.2.2.1 E.2.2.2.1 E.2.2.2.2;exact⟨S,F.after E.2.2.2.1 E.2.2.2.2,V.keep S.le_refl (I.kept F),O.trans I,U,X,J⟩
theorem Bd{o:Oper}{K':Act->World->Prop}(F:∀a w,K' a w->a.defers=[])(h:o.wp P a w K' fun _ _ _=>False):gAt P o a w fun v w'=>K' (a.put o.dst v) w':=by
 unfold Oper.wp at h;unfold gAt;generalize (execOp a.eval o).run P w=r at *;cases r with
 | ok m w'=>
   cases m <;> simp only[Oper.upon]at h <;> simp only[L4]
   case value u=>exact h
   case skip=>exact h
   case enter f args=>
     refine h.mono fun e I E=>?_
     cases e
     case returned v=>exact⟨v,rfl,E⟩
     case panicked c=>exact E.elim
     case outgrown=>obtain⟨_,_,h⟩:=E;exact h.elim
   case defer d=>have:=F _ _ h;rw[oA]at this;simp at this
   case row row args=>exact h
 | halt x w'=>cases x <;> simp only[Oper.upon]at h
variable{S:Sg}
theorem yZ{o:Oper}{w1:World}{CC:World->Prop}(I:∀w,CC w->St S w H/\Agree S H w1 w)(hS:St S w1 H)(U:FR S w1 ρ a)(V:a.tmps.size=n)(O:∀x∈o.op.operands,opB n x=true){G:Option Bool}
   (E:Region.wanted o (yielded ops a.tmps)=true↔gt G) (h:iP P G ρ H o.op fun x=>K (upd ρ o.dst (wr G x)) H):
   ∃z,K (upd ρ o.dst z) H/\(Region.wanted o (yielded ops a.tmps)=true->∃v,rep S w1 z v/\∀w,CC w->o.quietAt P a (Rw w) w v)/\(Region.wanted o (yielded ops a.tmps)=false->rep S w1 z undef):=by
 obtain⟨z,J,hg⟩:=EJ (V▸O) U hS.rows h;refine⟨_,J,fun F=>?_,fun F=>?_⟩
 . obtain⟨v,Z,Y⟩:=hg (E.1 F)
   refine⟨v,fW (E.1 F) Z,fun w X=>?_⟩;unfold Oper.quietAt;rw[Y w (I w X).2 o rfl];exact⟨rfl,rfl⟩
 . exact fE fun h=>by rw[E.2 h]at F;simp at F
theorem Pv{o:Oper}{c:Call}{w1:World}{CC:World->Prop}(Z:∀w,CC w->St S w H/\Agree S H w1 w)(hS:St S w1 H)(hF:FR S w1 ρ a)(hn:a.tmps.size=n)(ho:o.op=.call c)(hb:∀x∈o.op.operands,opB n x=true){G:Option Bool}
   (U:Region.wanted o (yielded ops a.tmps)=true↔gt G) {nl:Bool} (h:Cj P (bF P) (dP P) nl true G o c ρ H K):
   ∃z,K (upd ρ o.dst z) H/\(Region.wanted o (yielded ops a.tmps)=true->∃v,rep S w1 z v/\∀w,CC w->o.quietAt P a (Rw w) w v)/\(Region.wanted o (yielded ops a.tmps)=false->rep S w1 z undef):=by
 rw[ho]at hb;simp only[Op.operands,Call.operands]at hb;unfold Cj at h;split at h
 . rename_i b hc
   obtain⟨ys,h2,aa⟩:=oL hF c.args.toList (fun x hx=>hn▸hb x (by simp[Array.mem_toList_iff.1 hx])) h;clear h;have h:=h2;clear h2;split at h
   . rename_i x t J
     obtain⟨z,hz,hl⟩:=F2 (G:=G) (ty:=o.type) hS.rows h;refine⟨_,hz,fun O=>?_,fun O=>fE fun h=>by rw[U.2 h]at O;simp at O⟩;have F:=U.1 O;have hr:=aa F;simp only[bG]at hr;obtain⟨u,t',e1,e2,rfl⟩:=hr;obtain⟨v,hv,V⟩:=hl F u e2;have ea:c.args.map a.eval=#[u]:=Array.toList_inj.1 (by simpa using e1);have et:c.argTypes=#[t]:=Array.toList_inj.1 (by simpa using J);refine⟨v,fW F hv,fun w X=>?_⟩;unfold Oper.quietAt;have:(execOp a.eval o).run P w=.ok (.value v) w:=by simp[execOp,ho,resolve,hc,invoke,builtin,ea,et,V w (Z w X).2]
     rw[this];exact⟨rfl,rfl⟩
   . split at h
     . rename_i I;simp at I
     . exact h.elim
   . split at h
     . rename_i I;simp at I
     . exact h.elim
   . split at h
     . rename_i I;simp at I
     . exact h.elim
   . rename_i x y t t' J
     obtain⟨z,hz,hl⟩:=HZ (P:=P) (S:=S) (w:=w1) (H:=H) (G:=G) (tys:=c.argTypes) (ty:=o.type) h;refine⟨_,hz,fun O=>?_,fun O=>fE fun h=>by rw[U.2 h]at O;simp at O⟩
     . have F:=U.1 O
       have hr:=aa F;simp only[bG]at hr;obtain⟨us,t1,e1,e2,ux,t2,rfl,e3,rfl⟩:=hr;obtain⟨v,hv,V⟩:=hl F us ux e2 e3;have ea:c.args.map a.eval=#[us,ux]:=Array.toList_inj.1 (by simpa using e1);refine⟨v,fW F hv,fun w X=>?_⟩;unfold Oper.quietAt;have:(execOp a.eval o).run P w=.ok (.value v) w:=by simp[execOp,ho,resolve,hc,invoke,builtin,ea,V w (Z w X).2]
       rw[this];exact⟨rfl,rfl⟩
   . rename_i x y t t' J
     obtain⟨z,hz,hl⟩:=GB (P:=P) (S:=S) (w:=w1) (H:=H) (G:=G) (tys:=c.argTypes) (ty:=o.type) h;refine⟨_,hz,fun O=>?_,fun O=>fE fun h=>by rw[U.2 h]at O;simp at O⟩
     . have F:=U.1 O
       have hr:=aa F;simp only[bG]at hr;obtain⟨us,t1,e1,e2,ux,t2,rfl,e3,rfl⟩:=hr;obtain⟨v,hv,V⟩:=hl F us ux e2 e3;have ea:c.args.map a.eval=#[us,ux]:=Array.toList_inj.1 (by simpa using e1);refine⟨v,fW F hv,fun w X=>?_⟩;unfold Oper.quietAt;have:(execOp a.eval o).run P w=.ok (.value v) w:=by simp[execOp,ho,resolve,hc,invoke,builtin,ea,V w (Z w X).2]
       rw[this];exact⟨rfl,rfl⟩
   . exact h.elim
 . rename_i f hc
   obtain⟨yf,h2,hf⟩:=aW (S:=S) (w:=w1) h;clear h;have h:=h2;clear h2;split at h
   . rename_i g ak ai aj
     by_cases ad:nl=true
     . rw[if_pos ad]at h
       exact absurd h.2.1 (by decide)
     rw[if_neg ad]at h;obtain⟨ys,h2,aa⟩:=oL hF c.args.toList (fun x hx=>hn▸hb x (by simp[hc,Array.mem_toList_iff.1 hx])) h;clear h;obtain⟨ag,h⟩:=h2;have ah:=fun hg=>BT aj (hf hg _ (cV hF (hn▸hb f (by simp[hc]))))
     have J:gt G->∃first E:Array Value,a.eval f=.func (.func g) first E/\bG S w1 (ak++ys++ai) (first++c.args.map a.eval++E).toList:=fun hg=>by
       obtain⟨first,E,h1,h2,h3⟩:=ah hg;refine⟨first,E,h1,?_⟩;simp only[Array.toList_append];refine dO _ _ _ _ (dO _ _ _ _ h2 ?_) h3;simpa using aa hg
     split at h
     . rename_i I;simp at I
     . obtain⟨r,hq,hk⟩:=h
       by_cases F:gt G
       . rcases hq F with hq|⟨x,rfl,al⟩
         . obtain⟨v,ab⟩:=hq.val
           rw[PQ (by rw[ab];rfl)]at hk;refine⟨_,hk,fun O=>?_,fun O=>fE fun h=>by rw[U.2 h]at O;simp at O⟩;obtain⟨first,E,af,ae⟩:=J F;have ac:∀w,(execOp a.eval o).run P w=.ok (.enter g (first++c.args.map a.eval++E)) w:=fun w=>by
             simp only[execOp,ho];rw[pE hc af];simp[invoke,sN ag]
           have hv:=(hq.calls ab hS ae).1;refine⟨v,fW F (hv S w1),fun w X=>?_⟩;have Y:=(hq.calls ab (Z w X).1 (dW S.le_refl (Z w X).2.kept _ _ ae)).2;unfold Oper.quietAt;rw[ac];refine⟨rfl,?_⟩;rw[Array.toArray_toList]at Y;exact Y
         . exact hk.elim
       . obtain⟨z,hk⟩:=N3 hk
         refine⟨_,hk,fun O=>absurd (U.1 O) F,fun O=>fE F⟩
   . exact h.elim
 . exact h.elim
theorem wP{o:Oper}{w1:World}{CC:World->Prop}(I:∀w,CC w->St S w H/\Agree S H w1 w)(V:∀o∈ops,kJ n o=true)(X:St S w1 H)(O:FR S w1 ρ a)(U:a.tmps.size=n)(hb:kJ n o=true)(h:aop P (bF P) (dP P) mt true ops o ρ H K):
   ∃z,K (upd ρ o.dst z) H/\(Region.wanted o (yielded ops a.tmps)=true->∃v,rep S w1 z v/\∀w,CC w->o.quietAt P a (Rw w) w v)/\(Region.wanted o (yielded ops a.tmps)=false->rep S w1 z undef):=by
 obtain⟨F,_⟩:=yI hb;unfold aop at h;obtain⟨G,Z,E⟩:=zB V O U h;clear h;have h:=Z;clear Z;split at h
 . rename_i x J
   unfold Dh at h;split at h
   . rename_i Y;simp at Y
   . exact yZ I X O U F E (by rw[J];exact h)
 . split at h
   . simp at h
   . exact h.elim
 . simp at h
 . simp at h
 . simp at h
 . rename_i c J;exact Pv I X O U J F E h
 all_goals first
   | exact h.elim
   | (simp at h;done)
   | (rename_i J; split at h
      . simp at h;done
      . exact yZ I X O U F E (by rw[J];exact h))
   | (rename_i J; split at h
      . obtain⟨rfl,h⟩:=h
        rw[if_pos rfl]at h;obtain⟨z,hz,v,hv,hq⟩:=ED (S:=S) (w1:=w1) O (fun x hx=>U▸F x hx) J h;exact⟨z,hz,fun _=>⟨v,hv,fun w _=>by unfold Oper.quietAt;rw[hq w];exact⟨rfl,rfl⟩⟩,fun hw=>by rw[dN E rfl]at hw;cases hw⟩
      . exact yZ I X O U F E (by rw[J];exact h))
   | (rename_i J;exact yZ I X O U F E (by rw[J];exact h))
theorem OU{o:Oper}{w1:World}{CC:World->Prop}(I:∀w,CC w->St S w bV/\Agree S bV w1 w)(hS:St S w1 H)(V:FR S w1 ρ a)(X:a.tmps.size=n){t:TypeId}{x:Operand}{lo hi m:Option Operand}(O:o.op=.slice t x lo hi m)(J:∀x∈o.op.operands,opB n x=true){G:Option Bool}
   (E:Region.wanted o (yielded ops a.tmps)=true↔gt G) (h:iP P G ρ H o.op fun x=>K (upd ρ o.dst (wr G x)) H):
   ∃z,K (upd ρ o.dst z) H/\(Region.wanted o (yielded ops a.tmps)=true->∃v,rep S w1 z v/\∀w,CC w->o.quietAt P a (Rw w) w v)/\(Region.wanted o (yielded ops a.tmps)=false->rep S w1 z undef):=by
 rw[O]at J h;obtain⟨z,U,hg⟩:=Cl (H':=bV) (X▸J) V hS.rows h;refine⟨_,U,fun F=>?_,fun F=>?_⟩
 . obtain⟨v,hv,Z⟩:=hg (E.1 F)
   refine⟨v,fW (E.1 F) hv,fun w Y=>?_⟩;unfold Oper.quietAt;rw[Z w (I w Y).2 o O];exact⟨rfl,rfl⟩
 . exact fE fun h=>by rw[E.2 h]at F;simp at F
theorem Td{o:Oper}{w1:World}{CC:World->Prop}(J:∀w,CC w->St S w bV/\Agree S bV w1 w)(F:∀o∈ops,kJ n o=true)(hS:St S w1 H)(U:FR S w1 ρ a)(V:a.tmps.size=n)(Y:kJ n o=true){K:Env->Prop}(h:aop P (bF P) (dP P) mt true ops o ρ (qH o H) fun E _=>K E):
   ∃z,K (upd ρ o.dst z)/\(Region.wanted o (yielded ops a.tmps)=true->∃v,rep S w1 z v/\∀w,CC w->o.quietAt P a (Rw w) w v)/\(Region.wanted o (yielded ops a.tmps)=false->rep S w1 z undef):=by
 by_cases Z:∃t x lo hi m,o.op=.slice t x lo hi m
 . obtain⟨t,x,lo,hi,m,I⟩:=Z
   have e:qH o H=H:=by unfold qH;rw[I]
   rw[e]at h;obtain⟨X,_⟩:=yI Y;unfold aop at h;obtain⟨G,h2,O⟩:=zB F U V h;clear h;rw[I]at h2;exact OU (K:=fun E _=>K E) J hS U V I X O (by rw[I];exact h2)
 . have e : qH o H = bV := by
     unfold qH;split
     . rename_i I;exact absurd ⟨_,_,_,_,_,I⟩ Z
     . rfl
   rw[e]at h;exact wP (K:=fun E _=>K E) J F (hS.drop fun k r hk=>by simp[bV]at hk) U V Y h
theorem Jv{Q':Exit->Act->World->Prop}{wb:World}{Sb:Sg}{Hb:aK}(E:∀o∈ops,kJ n o=true)(hQ:∀ρ H a w,K ρ H->Rel n Sb wb Hb ρ H a w->Q' .normal a w):
   ∀(l:List Oper) (k:Nat) (listed:Array Bool) (ρ:Env) (H:aK) (a:Act) (w:World),(∀j,l[j]?=ops[k+j]?)->(∀o∈l,kJ n o=true)->Region.seqB .any ops l.length k listed=true ->
     xR P (bF P) (dP P) mt false ops K l ρ H->Rel n Sb wb Hb ρ H a w->jO P .any ops (Cb Sb wb) Rw Q' l.length listed a w
 | [],_,_,ρ,H,a,w,_,_,hB,h,hR=>⟨by simpa[Region.seqB]using hB,hQ ρ H a w h hR⟩
 | o::rest,k,listed,ρ,H,a,w,hl,hb,hB,h,hR=>by
   have h0:ops[k]?=some o:=by simpa using(hl 0).symm
   simp only[List.length_cons,Region.seqB,Bool.and_eq_true,decide_eq_true_eq]at hB;refine⟨by rw[hB.1];simp,fun i hi=>?_⟩;rw[hB.1]at hi;have V:i=k:=by simpa using hi
   subst V;obtain⟨S,hS,hF,hG,hN,hd,hn⟩:=hR;have he:=xD (K':=fun I w'=>I.defers=[]/\Cb Sb wb w'/\∀J,Rw w' J->jO P .any ops (Cb Sb wb) Rw Q' rest.length (listed.setIfInBounds i true) I J) (Q':=fun _ _ _=>False) E hS hF hG hN hd hn (hb o (by simp))
     (fun U H' I w' F X=>by
       refine⟨?_,?_,fun J h2=>Jv E hQ rest (i+1) _ U H' I J (fun j=>by have:=hl (j+1);simpa[Nat.add_assoc,Nat.add_comm 1 j]using this) (fun o ho=>hb o (by simp[ho])) hB.2 F (X.rw h2)⟩
       . obtain⟨S',_,_,_,_,Y,_⟩:=X;exact Y
       . obtain⟨S',_,_,Z,_⟩:=X;exact Z.cb) h
   unfold gOp;simp only[h0];by_cases O:Region.wanted o (yielded ops a.tmps)=true
   . rw[if_pos O]
     exact qK (fun v w' F=>F.2) (Bd (fun a w F=>F.1) (he.1 O))
   . rw[if_neg O]
     exact(he.2 (by simpa using O)).2
theorem Gc{Q':Exit->Act->World->Prop}{wb:World}{Sb:Sg}(F:∀o∈ops,kJ n o=true)(X:Region.noSelect ops=true)(I:St Sb wb bV){g:Nat}
   (hK:∀ρ a E w,K ρ bV->Rw wb w->FR Sb wb ρ a->a.defers=[]->a.tmps.size=n->∀k,Region.seqB .any ops g k E=true->k=ops.size-g->jO P .any ops (Cb Sb wb) Rw Q' g E a w):
   ∀(l:List Oper) (k:Nat) (E:Array Bool) (ρ:Env) (a:Act),(∀j,j<l.length->l[j]?=ops[k+j]?)->k+l.length=ops.size-g->(∀o∈l,kJ n o=true)->Region.lexHead .any ops g l.length k E=true ->
     xR P (bF P) (dP P) mt true ops K l ρ bV->FR Sb wb ρ a->a.defers=[]->a.tmps.size=n->∀w,Rw wb w->jO P .any ops (Cb Sb wb) Rw Q' (l.length+g) E a w
 | [],k,E,ρ,a,_,hk,_,hB,h,hF,hd,hn,w,hC=>by
   rw[List.length_nil,Nat.zero_add];exact hK ρ a E w h hC hF hd hn k hB (by simpa using hk)
 | o::rest,k,E,ρ,a,hl,hk,hb,hB,h,hF,hd,hn,w,hC=>by
   have h0:ops[k]?=some o:=by simpa using(hl 0 (by simp)).symm
   simp only[List.length_cons,Region.lexHead,Bool.and_eq_true]at hB;obtain⟨⟨O,hf⟩,Z⟩:=hB;obtain⟨z,hz,h1,Y⟩:=wP (CC:=Cb Sb wb) (fun w J=>⟨J.st I,J.agree I⟩) F I hF hn (hb o (by simp)) h;have next:∀v,rep Sb wb z v->∀V,Rw w V->jO P .any ops (Cb Sb wb) Rw Q' (rest.length+g) (E.setIfInBounds k true) (a.put o.dst v) V:=fun v hv V Y=>
     Gc F X I hK rest (k+1) _ _ _ (fun j hj=>by have:=hl (j+1) (by simp;omega);simpa[Nat.add_assoc,Nat.add_comm 1 j]using this) (by simp only[List.length_cons]at hk;omega) (fun o ho=>hb o (by simp[ho])) Z hz (FR.put hF hv) (by rw[oA];exact hd) (by rw[wJ];exact hn) V (hC.trans Y)
   rw[List.length_cons,show rest.length+1+g=(rest.length+g)+1 by omega];by_cases hw:Region.wanted o (yielded ops a.tmps)=true
   . obtain⟨v,hv,hq⟩:=h1 hw
     exact jV h0 (Region.noSelect_spec X) Rw.refl (fun _ _ _=>Rw.trans) (fun _ _ J O=>J.rw I O) _ E a w (hC.cb I) (Region.free_spec h0 hf) (by simpa using O) (.inl ⟨hw,hq⟩) (next v hv)
   . have U:Region.wanted o (yielded ops a.tmps)=false:=by simpa using hw
     exact jV h0 (Region.noSelect_spec X) Rw.refl (fun _ _ _=>Rw.trans) (fun _ _ J O=>J.rw I O) _ E a w (hC.cb I) (Region.free_spec h0 hf) (by simpa using O) (.inr ⟨U,rfl⟩) (next _ (Y U))
theorem QT{Q':Exit->Act->World->Prop}{id m:Nat}(hm:P.follows .mixedOrders=true)(E:∀o∈ops,kJ n o=true)(hB:Ur ops m=true)
   (h:xR P (bF P) (dP P) mt true ops (fun F _=>xR P (bF P) (dP P) mt false ops K (ops.toList.drop m) F H) (ops.toList.take m) ρ bV)
   (hR:Rel n S0 w0 H0 ρ H a w) (hQ:∀ρ H a w,K ρ H->Rel n S0 w0 H0 ρ H a w->Q' .normal a w):(Code.region id ops true).wp P Q' a w:=by
 obtain⟨S,hS,hF,hG,hN,hd,hn⟩:=hR;simp only[Ur,Bool.and_eq_true,decide_eq_true_eq]at hB;obtain⟨⟨hs,ak⟩,ab⟩:=hB
 let w1:World:={ w with drawn:=w.drawn+1 }
 have O:St S w1 H:=hS.after (Nat.le_refl _) fun _ _=>rfl
 have aa:Grow S w S w1:=hS.grow rfl rfl rfl (Nat.le_refl _) fun _ _=>rfl
 have af:FR S w1 ρ a:=hF.keep S.le_refl (aa.kept hS);have ae:St S w1 bV:=O.drop fun k r hk=>by simp[bV]at hk
 refine wp_region_any hm (tP (C:=Cb S w1) (R:=Rw) Rw.refl _ _ _ _ ?_);have J:(ops.toList.take m).length=m:=by simp;omega
 have:=Gc (Q':=Q') (g:=ops.size-m) (wb:=w1) (Sb:=S) E hs ae (K:=fun F _=>xR P (bF P) (dP P) mt false ops K (ops.toList.drop m) F H) (fun F a' I w' hk U X V Y k Z aj=>by
   have ad:k=m:=by omega
   subst ad;have hx:=Jv (Q':=Q') (wb:=w1) (Sb:=S) (Hb:=H) E (K:=K) (fun ρ H a w hk hr=>by
     obtain⟨S',ac,X,ai,ah,V,Y⟩:=hr;exact hQ ρ H a w hk ⟨S',ac,X,hG.trans (aa.trans ai),hN.trans ah hG.le.N,V,Y⟩) (ops.toList.drop k) k I F H a' w' (fun j=>by simp[List.getElem?_drop]) (fun o ho=>E o (Array.mem_toList_iff.1 (List.mem_of_mem_drop ho)))
     (by simpa using Z) hk ?_
   . simpa using hx
   . have hg:=O.grow U.1 U.2.1 U.2.2.1 U.2.2.2.1 U.2.2.2.2
     exact⟨S,O.after U.2.2.2.1 U.2.2.2.2,X.keep S.le_refl (hg.kept O),hg,fS.refl _ _,V,Y⟩) (ops.toList.take m) 0 (Array.replicate ops.size false) ρ a (fun j hj=>by
       have ag:j<m:=by rw[J]at hj;exact hj
       simp[ag]) (by rw[J];omega) (fun o ho=>E o (Array.mem_toList_iff.1 (List.mem_of_mem_take ho))) (by rw[J];exact ab) h af hd hn w1 (Rw.refl w1)
 rw[J,show m+(ops.size-m)=ops.size by omega]at this;exact this
theorem uR{C F:World->Prop}{R:World->World->Prop}{Q':Exit->Act->World->Prop}(h:∀w,F w->C w):∀(f:Nat) (listed:Array Bool) (a:Act) (w:World),jO P .any ops F R Q' f listed a w->jO P .any ops C R Q' f listed a w
 | 0,_,_,_,hw=>hw
 | f+1,_,_,_,hw=>⟨hw.1,fun i hi=>FT (fun O w' E=>⟨h w' E.1,fun J I=>uR h f _ _ _ (E.2 J I)⟩) (hw.2 i hi)⟩
theorem Cb.mono{S S':Sg}{w w' F:World}{H:aK}(J:St S w H)(E:Grow S w S' w')(h:Cb S' w' F):Cb S w F:=
 ⟨h.1.trans E.os,h.2.1.trans E.tape,h.2.2.1.trans E.output,Nat.le_trans E.size h.2.2.2.1,fun k I=>(h.2.2.2.2 k (E.fz k I)).trans (E.same k I)⟩
theorem Af{Q':Exit->Act->World->Prop}(E:∀o∈ops,kJ n o=true)(F:Region.noSelect ops=true)(hQ:∀ρ H a w,K ρ H->Rel n S0 w0 H0 ρ H a w->Q' .normal a w):
   ∀(f:List (Nat×Bool)) (listed:Array Bool) (ρ:Env) (H:aK) (a:Act) (w:World) (S:Sg),pN ops f listed=true ->
     AS P (bF P) (dP P) mt ops K f ρ H->St S w H->FR S w ρ a->Grow S0 w0 S w->fS S0.N H0 H->a.defers=[]->a.tmps.size=n->∀J,Rw w J->jO P .any ops (Cb S w) Rw Q' f.length listed a J
 | [],listed,ρ,H,a,w,S,hB,h,hS,hF,hG,hN,hd,hn,J,h2=>by
   refine⟨by simpa[pN]using hB,hQ ρ H a J h (Rel.rw ⟨S,hS,hF,hG,hN,hd,hn⟩ h2)⟩
 | (k,true)::f,listed,ρ,H,a,w,S,hB,h,hS,hF,hG,hN,hd,hn,J,h2=>by
   simp only[pN,Bool.and_eq_true]at hB;obtain⟨⟨O,hf⟩,ah⟩:=hB;unfold AS at h;split at h
   . rename_i o h0
     rw[if_pos rfl]at h;have Z:=E o (Array.mem_of_getElem? h0);obtain⟨z,hz,h1,Y⟩:=Td (CC:=Cb S w) (K:=fun V=>AS P (bF P) (dP P) mt ops K f V H) (fun w hc=>⟨hc.st hS,hc.agree hS⟩) E hS hF hn Z h;have next:∀v,rep S w z v->∀I,Rw w I->jO P .any ops (Cb S w) Rw Q' f.length (listed.setIfInBounds k true) (a.put o.dst v) I:=fun v hv I Y=>
       Af E F hQ f _ _ H _ w S ah hz hS (FR.put hF hv) hG hN (by rw[oA];exact hd) (by rw[wJ];exact hn) I Y
     rw[List.length_cons];by_cases U:Region.wanted o (yielded ops a.tmps)=true
     . obtain⟨v,hv,hq⟩:=h1 U
       exact jV h0 (Region.noSelect_spec F) Rw.refl (fun _ _ _=>Rw.trans) (fun _ _ hc O=>hc.rw hS O) _ listed a J (h2.cb hS) (Region.free_spec h0 hf) (by simpa using O) (.inl ⟨U,hq⟩) (fun I Y=>next v hv I (h2.trans Y))
     . have ac:Region.wanted o (yielded ops a.tmps)=false:=by simpa using U
       exact jV h0 (Region.noSelect_spec F) Rw.refl (fun _ _ _=>Rw.trans) (fun _ _ hc O=>hc.rw hS O) _ listed a J (h2.cb hS) (Region.free_spec h0 hf) (by simpa using O) (.inr ⟨ac,rfl⟩) (fun I ae=>next _ (Y ac) I (h2.trans ae))
   . exact h.elim
 | (k,false)::f,listed,ρ,H,a,w,S,hB,h,hS,hF,hG,hN,hd,hn,J,h2=>by
   simp only[pN,Bool.and_eq_true,decide_eq_true_eq]at hB;unfold AS at h;split at h
   . rename_i o h0
     rw[if_neg (by simp)]at h;have Z:=E o (Array.mem_of_getElem? h0);rw[List.length_cons];refine⟨by rw[hB.1];simp,fun i hi=>?_⟩;rw[hB.1]at hi;have af:i=k:=by simpa using hi
     subst af;have ab:=hS.grow h2.1 h2.2.1 h2.2.2.1 h2.2.2.2.1 h2.2.2.2.2;have al:St S J H:=hS.after h2.2.2.2.1 h2.2.2.2.2;have ag:FR S J ρ a:=hF.keep S.le_refl (ab.kept hS);have he:=xD (S0:=S) (w0:=J) (H0:=H) (K:=AS P (bF P) (dP P) mt ops K f) (K':=fun a' w'=>a'.defers=[]/\Cb S w w'/\∀I,Rw w' I->jO P .any ops (Cb S w) Rw Q' f.length (listed.setIfInBounds i true) a' I) (Q':=fun _ _ _=>False) E al ag (Grow.refl S J) (fS.refl _ _) hd hn Z
       (fun V H' a' w' hk O=>by
         obtain⟨S',ad,ai,ak,aj,aa,am⟩:=O;have X:Grow S w S' w':=ab.trans ak;refine⟨aa,X.cb,fun I Y=>?_⟩;refine uR (fun x hx=>Cb.mono hS X hx) _ _ _ _ (Af E F hQ f _ V H' a' w' S' hB.2 hk ad ai (hG.trans X) (hN.trans aj hG.le.N) aa am I Y)) h
     unfold gOp;simp only[h0];by_cases U:Region.wanted o (yielded ops a.tmps)=true
     . rw[if_pos U]
       exact qK (fun v w' hk=>hk.2) (Bd (fun a w hk=>hk.1) (he.1 U))
     . rw[if_neg U]
       exact(he.2 (by simpa using U)).2
   . exact h.elim
theorem Xa{Q':Exit->Act->World->Prop}{id:Nat}{f:List (Nat×Bool)}(hm:P.follows .mixedOrders=true)(F:∀o∈ops,kJ n o=true)(X:Of ops f=true)
   (h:AS P (bF P) (dP P) mt ops K f ρ H)
   (hR:Rel n S0 w0 H0 ρ H a w) (hQ:∀ρ H a w,K ρ H->Rel n S0 w0 H0 ρ H a w->Q' .normal a w):(Code.region id ops true).wp P Q' a w:=by
 obtain⟨S,V,hF,Y,hN,hd,hn⟩:=hR;simp only[Of,Bool.and_eq_true,decide_eq_true_eq]at X;obtain⟨⟨Z,U⟩,I⟩:=X
 let w1:World:={ w with drawn:=w.drawn+1 }
 have O:St S w1 H:=V.after (Nat.le_refl _) fun _ _=>rfl
 have E:Grow S w S w1:=V.grow rfl rfl rfl (Nat.le_refl _) fun _ _=>rfl
 have J:FR S w1 ρ a:=hF.keep S.le_refl (E.kept V);refine wp_region_any hm (tP (C:=Cb S w1) (R:=Rw) Rw.refl _ _ _ _ ?_);have:=Af (Q':=Q') F Z hQ f (Array.replicate ops.size false) ρ H a w1 S I h O J (Y.trans E) hN hd hn w1 (Rw.refl w1);rw[U]at this;exact this
structure Pin(S:Sg)(w:World)(Hp:aK):Prop where
 rows:AK S w Hp
 fz:∀k r,Hp k=some r->∀g,blk (S.loc k)=some g->S.fz g/\¬S.ro g
 disj:∀k k' r r',Hp k=some r->Hp k'=some r'->k≠k'->∀g,blk (S.loc k)=some g->blk (S.loc k')≠some g
def amF(S:Sg)(Hp:aK)(g:Nat):Prop:=∃k r,Hp k=some r/\blk (S.loc k)=some g
def Sg.unpin(S:Sg)(Hp:aK):Sg:={ S with fz:=fun g=>S.fz g/\¬amF S Hp g }
def Sg.pin(S:Sg)(Hp:aK):Sg:={ S with fz:=fun g=>S.fz g\/amF S Hp g }
theorem Sg.le_unpin(S:Sg)(Hp:aK):S.le (S.unpin Hp):=⟨fun _ h=>h,Nat.le_refl _,fun _ _=>rfl,fun _ _=>rfl⟩
theorem Sg.unpin_le(S:Sg)(Hp:aK):(S.unpin Hp).le S:=⟨fun _ h=>h,Nat.le_refl _,fun _ _=>rfl,fun _ _=>rfl⟩
theorem Sg.le_pin(S:Sg)(Hp:aK):S.le (S.pin Hp):=⟨fun _ h=>h,Nat.le_refl _,fun _ _=>rfl,fun _ _=>rfl⟩
theorem Pin.merge{Hp Y:aK}(h:Pin S w Hp)(J:St S w H)(V:∀k r,Y k=some r->H k=some r\/Hp k=some r):St (S.unpin Hp) w Y:=by
 have hr:∀k r,Y k=some r->RowOK S w k r:=fun k r E=>by
   rcases V k r E with h1|h1
   . exact J.rows k r h1
   . exact h.rows k r h1
 refine⟨fun k E=>⟨J.ro_fz k E,fun⟨i,r,hi,I⟩=>(h.fz i r hi k I).2 E⟩,fun k E=>J.fz_lt k E.1,fun k r E=>(hr k r E).keep (S.le_unpin Hp) (gE.refl S w) (fun _ _=>rfl),fun k r E g I Z=>?_,fun k k' r r' E X U g I F=>?_,J.tabs⟩
 . rcases V k r E with h1|h1
   . exact J.free k r h1 g I Z.1
   . exact Z.2 ⟨k,r,h1,I⟩
 . rcases V k r E with h1|h1 <;> rcases V k' r' X with O|O
   . exact J.disj k k' r r' h1 O U g I F
   . exact J.free k r h1 g I (h.fz k' r' O g F).1
   . exact J.free k' r' O g F (h.fz k r h1 g I).1
   . exact h.disj k k' r r' h1 O U g I F
theorem Pin.keep{Hp:aK}{S':Sg}{w':World}(h:Pin S w Hp)(X:St S w H)(F:Grow S w S' w'):Pin S' w' Hp:=by
 refine⟨fun k r E=>(h.rows k r E).keep F.le (F.kept X) (fun g I=>F.same g (h.fz k r E g I).1),fun k r E g I=>?_,fun k k' r r' E J O g I=>?_⟩
 . rw[F.le.loc k (h.rows k r E).lt]at I
   have h1:=h.fz k r E g I;refine⟨F.fz g h1.1,fun V=>?_⟩;rcases F.newro g V with U|U
   . exact h1.2 U
   . exact U h1.1
 . rw[F.le.loc k (h.rows k r E).lt]at I
   rw[F.le.loc k' (h.rows k' r' J).lt];exact h.disj k k' r r' E J O g I
theorem Cb.pin{wb w:World}{H Hp:aK}(F:St S wb H)(I:Pin S wb Hp)(h:Cb S wb w):St (S.unpin Hp) w Hp/\Agree (S.unpin Hp) Hp wb w:=by
 have O:Grow S wb S w:=⟨S.le_refl,fun _ h=>h,h.1,h.2.1,h.2.2.1,h.2.2.2.1,h.2.2.2.2,fun _ h=>.inl h⟩;exact⟨(I.keep F O).merge (h.st F) (fun k r E=>.inr E),⟨fun k E=>h.2.2.2.2 k (F.ro_fz k E),fun k r E g J=>h.2.2.2.2 g (I.fz k r E g J).1⟩⟩
theorem zC{Q':Exit->Act->World->Prop}{Hp:aK}(E:∀o∈ops,kJ n o=true)(F:Region.noSelect ops=true)
   (hQ:∀ρ H a w S,K ρ H->St S w H->Pin S w Hp->FR S w ρ a->Grow S0 w0 S w->fS S0.N H0 H->a.defers=[]->a.tmps.size=n->Q' .normal a w):
   ∀(f:List (Nat×Bool)) (listed:Array Bool) (ρ:Env) (H:aK) (a:Act) (w:World) (S:Sg),pN ops f listed=true ->
     rF P (bF P) (dP P) mt ops K Hp f ρ H->St S w H->Pin S w Hp->FR S w ρ a->Grow S0 w0 S w->fS S0.N H0 H->a.defers=[]->a.tmps.size=n->∀J,Rw w J->jO P .any ops (Cb S w) Rw Q' f.length listed a J
 | [],listed,ρ,H,a,w,S,hB,h,hS,hP,hF,hG,hN,hd,hn,J,h2=>by
   have hg:=hS.grow h2.1 h2.2.1 h2.2.2.1 h2.2.2.2.1 h2.2.2.2.2;exact⟨by simpa[pN]using hB,hQ ρ H a J S h (hS.after h2.2.2.2.1 h2.2.2.2.2) (hP.keep hS hg) (hF.keep S.le_refl (hg.kept hS)) (hG.trans hg) hN hd hn⟩
 | (k,true)::f,listed,ρ,H,a,w,S,hB,h,hS,hP,hF,hG,hN,hd,hn,J,h2=>by
   simp only[pN,Bool.and_eq_true]at hB;obtain⟨⟨O,hf⟩,ak⟩:=hB;unfold rF at h;split at h
   . rename_i o h0
     rw[if_pos rfl]at h;have Z:=E o (Array.mem_of_getElem? h0);obtain⟨z,hz,h1,Y⟩:=wP (S:=S.unpin Hp) (CC:=Cb S w) (K:=fun V _=>rF P (bF P) (dP P) mt ops K Hp f V H) (fun w hc=>hc.pin hS hP) E (hP.merge hS fun k r hk=>.inr hk) (hF.keep (S.le_unpin Hp) (gE.refl S w)) hn Z h;have next:∀v,rep (S.unpin Hp) w z v->∀I,Rw w I->jO P .any ops (Cb S w) Rw Q' f.length (listed.setIfInBounds k true) (a.put o.dst v) I:=fun v hv I Y=>
       zC E F hQ f _ _ H _ w S ak hz hS hP (FR.put hF (lI (S.unpin_le Hp) (gE.refl (S.unpin Hp) w) _ _ hv)) hG hN (by rw[oA];exact hd) (by rw[wJ];exact hn) I Y
     rw[List.length_cons];by_cases U:Region.wanted o (yielded ops a.tmps)=true
     . obtain⟨v,hv,hq⟩:=h1 U
       exact jV h0 (Region.noSelect_spec F) Rw.refl (fun _ _ _=>Rw.trans) (fun _ _ hc O=>hc.rw hS O) _ listed a J (h2.cb hS) (Region.free_spec h0 hf) (by simpa using O) (.inl ⟨U,hq⟩) (fun I Y=>next v hv I (h2.trans Y))
     . have ac:Region.wanted o (yielded ops a.tmps)=false:=by simpa using U
       exact jV h0 (Region.noSelect_spec F) Rw.refl (fun _ _ _=>Rw.trans) (fun _ _ hc O=>hc.rw hS O) _ listed a J (h2.cb hS) (Region.free_spec h0 hf) (by simpa using O) (.inr ⟨ac,rfl⟩) (fun I ag=>next _ (Y ac) I (h2.trans ag))
   . exact h.elim
 | (k,false)::f,listed,ρ,H,a,w,S,hB,h,hS,hP,hF,hG,hN,hd,hn,J,h2=>by
   simp only[pN,Bool.and_eq_true,decide_eq_true_eq]at hB;unfold rF at h;split at h
   . rename_i o h0
     rw[if_neg (by simp)]at h;have Z:=E o (Array.mem_of_getElem? h0);rw[List.length_cons];refine⟨by rw[hB.1];simp,fun i hi=>?_⟩;rw[hB.1]at hi;have ah:i=k:=by simpa using hi
     subst ah;have aa:=hS.grow h2.1 h2.2.1 h2.2.2.1 h2.2.2.2.1 h2.2.2.2.2;have ae:St S J H:=hS.after h2.2.2.2.1 h2.2.2.2.2;have aj:Pin S J Hp:=hP.keep hS aa;have ai:FR S J ρ a:=hF.keep S.le_refl (aa.kept hS);have he:=xD (S0:=S) (w0:=J) (H0:=H) (K:=rF P (bF P) (dP P) mt ops K Hp f) (K':=fun a' w'=>a'.defers=[]/\Cb S w w'/\∀I,Rw w' I->jO P .any ops (Cb S w) Rw Q' f.length (listed.setIfInBounds i true) a' I) (Q':=fun _ _ _=>False) E ae ai (Grow.refl S J) (fS.refl _ _) hd hn Z
       (fun V H' a' w' hk O=>by
         obtain⟨S',af,al,ad,am,ab,an⟩:=O;have X:Grow S w S' w':=aa.trans ad;refine⟨ab,X.cb,fun I Y=>?_⟩;refine uR (fun x hx=>Cb.mono hS X hx) _ _ _ _ (zC E F hQ f _ V H' a' w' S' hB.2 hk af (aj.keep ae ad) al (hG.trans X) (hN.trans am hG.le.N) ab an I Y)) h
     unfold gOp;simp only[h0];by_cases U:Region.wanted o (yielded ops a.tmps)=true
     . rw[if_pos U]
       exact qK (fun v w' hk=>hk.2) (Bd (fun a w hk=>hk.1) (he.1 U))
     . rw[if_neg U]
       exact(he.2 (by simpa using U)).2
   . exact h.elim
theorem sX{Q':Exit->Act->World->Prop}{Hp:aK}(O:∀o∈ops,kJ n o=true){i m:Nat}{o:Oper}{E:Array Bool}{K1:Env->aK->Prop}(h0:ops[i]?=some o)(h:aop P (bF P) (dP P) mt false ops o ρ H K1)
   (Z:St S w H) (hP:Pin S w Hp) (hF:FR S w ρ a) (hd:a.defers=[]) (hn:a.tmps.size=n) {Y:World} (X:Rw w Y)
   (next:∀J H' F w' S',K1 J H'->St S' w' H'->Pin S' w' Hp->FR S' w' J F->Grow S w S' w'->fS S.N H H'->F.defers=[]->F.tmps.size=n->∀I,Rw w' I->jO P .any ops (Cb S' w') Rw Q' m (E.setIfInBounds i true) F I):
   gOp P ops i (fun F w'=>Cb S w w'/\∀I,Rw w' I->jO P .any ops (Cb S w) Rw Q' m (E.setIfInBounds i true) F I) a Y:=by
 have ag:=O o (Array.mem_of_getElem? h0);have V:=Z.grow X.1 X.2.1 X.2.2.1 X.2.2.2.1 X.2.2.2.2;have ac:St S Y H:=Z.after X.2.2.2.1 X.2.2.2.2;have af:Pin S Y Hp:=hP.keep Z V;have ae:FR S Y ρ a:=hF.keep S.le_refl (V.kept Z);have he:=xD (S0:=S) (w0:=Y) (H0:=H) (K:=K1) (K':=fun F w'=>F.defers=[]/\Cb S w w'/\∀I,Rw w' I->jO P .any ops (Cb S w) Rw Q' m (E.setIfInBounds i true) F I) (Q':=fun _ _ _=>False) O ac ae (Grow.refl S Y) (fS.refl _ _) hd hn ag
   (fun J H' F w' hk hr=>by
     obtain⟨S',ad,ah,ab,ai,aa,aj⟩:=hr;have U:Grow S w S' w':=V.trans ab;refine⟨aa,U.cb,fun I h3=>?_⟩;exact uR (fun x hx=>Cb.mono Z U hx) _ _ _ _ (next J H' F w' S' hk ad (af.keep ac ab) ah U ai aa aj I h3)) h
 unfold gOp;simp only[h0];by_cases hw:Region.wanted o (yielded ops a.tmps)=true
 . rw[if_pos hw]
   exact qK (fun v w' hk=>hk.2) (Bd (fun a w hk=>hk.1) (he.1 hw))
 . rw[if_neg hw]
   exact(he.2 (by simpa using hw)).2
theorem qY{q:Bool}{k:Nat}{E:Env->aK->Prop}(h:BY P (bF P) (dP P) mt q ops k ρ H E):∃o,ops[k]?=some o/\aop P (bF P) (dP P) mt q ops o ρ H E:=by
 unfold BY at h;split at h
 . rename_i o h0;exact⟨o,h0,h⟩
 . exact h.elim
theorem jT{Q':Exit->Act->World->Prop}{Hp:aK}(E:∀o∈ops,kJ n o=true)(F:Region.noSelect ops=true)
   (hQ:∀ρ H a w S,K ρ H->St S w H->Pin S w Hp->FR S w ρ a->Grow S0 w0 S w->fS S0.N H0 H->a.defers=[]->a.tmps.size=n->Q' .normal a w):
   ∀(t:Mx) (m:Nat) (listed:Array Bool) (ρ:Env) (H:aK) (a:Act) (w:World) (S:Sg),gF ops t m listed=true ->
     nL P (bF P) (dP P) mt ops K Hp t ρ H->St S w H->Pin S w Hp->FR S w ρ a->Grow S0 w0 S w->fS S0.N H0 H->a.defers=[]->a.tmps.size=n->∀w2,Rw w w2->jO P .any ops (Cb S w) Rw Q' m listed a w2
 | .nil,m,listed,ρ,H,a,w,S,hB,h,hS,hP,hF,hG,hN,hd,hn,w2,h2=>by
   cases m with
   | succ m=>simp[gF]at hB
   | zero=>
     have hg:=hS.grow h2.1 h2.2.1 h2.2.2.1 h2.2.2.2.1 h2.2.2.2.2;exact⟨by simpa[gF]using hB,hQ ρ H a w2 S h (hS.after h2.2.2.2.1 h2.2.2.2.2) (hP.keep hS hg) (hF.keep S.le_refl (hg.kept hS)) (hG.trans hg) hN hd hn⟩
 | .q k t,m,listed,ρ,H,a,w,S,hB,h,hS,hP,hF,hG,hN,hd,hn,w2,h2=>by
   cases m with
   | zero=>simp[gF]at hB
   | succ m=>
     simp only[gF,Bool.and_eq_true]at hB;obtain⟨⟨hr,hf⟩,ag⟩:=hB;obtain⟨o,h0,h⟩:=qY h;have af:=E o (Array.mem_of_getElem? h0);obtain⟨z,hz,h1,h3⟩:=wP (S:=S.unpin Hp) (CC:=Cb S w) (K:=fun I _=>nL P (bF P) (dP P) mt ops K Hp t I H) (fun w hc=>hc.pin hS hP) E (hP.merge hS fun k r hk=>.inr hk) (hF.keep (S.le_unpin Hp) (gE.refl S w)) hn af h;have next:∀v,rep (S.unpin Hp) w z v->∀w3,Rw w w3->jO P .any ops (Cb S w) Rw Q' m (listed.setIfInBounds k true) (a.put o.dst v) w3:=fun v hv w3 h3=>
       jT E F hQ t m _ _ H _ w S ag hz hS hP (FR.put hF (lI (S.unpin_le Hp) (gE.refl (S.unpin Hp) w) _ _ hv)) hG hN (by rw[oA];exact hd) (by rw[wJ];exact hn) w3 h3
     by_cases hw:Region.wanted o (yielded ops a.tmps)=true
     . obtain⟨v,hv,hq⟩:=h1 hw
       exact jV h0 (Region.noSelect_spec F) Rw.refl (fun _ _ _=>Rw.trans) (fun _ _ hc hr=>hc.rw hS hr) _ listed a w2 (h2.cb hS) (Region.free_spec h0 hf) (by simpa using hr) (.inl ⟨hw,hq⟩) (fun w3 h3=>next v hv w3 (h2.trans h3))
     . have ac:Region.wanted o (yielded ops a.tmps)=false:=by simpa using hw
       exact jV h0 (Region.noSelect_spec F) Rw.refl (fun _ _ _=>Rw.trans) (fun _ _ hc hr=>hc.rw hS hr) _ listed a w2 (h2.cb hS) (Region.free_spec h0 hf) (by simpa using hr) (.inr ⟨ac,rfl⟩) (fun w3 ad=>next _ (h3 ac) w3 (h2.trans ad))
 | .a1 k t,m,listed,ρ,H,a,w,S,hB,h,hS,hP,hF,hG,hN,hd,hn,w2,h2=>by
   cases m with
   | zero=>simp[gF]at hB
   | succ m=>
     simp only[gF,Bool.and_eq_true,decide_eq_true_eq]at hB;obtain⟨o,h0,g⟩:=qY h;refine⟨by rw[hB.1];simp,fun i hi=>?_⟩;rw[hB.1]at hi;simp only[List.mem_cons,List.not_mem_nil,or_false]at hi;subst hi;exact sX E h0 g hS hP hF hd hn h2 fun I H' a' w' S' hk J U V Y X O Z w3 h3=>jT E F hQ t m _ I H' a' w' S' hB.2 hk J U V (hG.trans Y) (hN.trans X hG.le.N) O Z w3 h3
 | .a2 k t k' t',m,listed,ρ,H,a,w,S,hB,h,hS,hP,hF,hG,hN,hd,hn,w2,h2=>by
   cases m with
   | zero=>simp[gF]at hB
   | succ m=>
     simp only[gF,Bool.and_eq_true,decide_eq_true_eq]at hB;obtain⟨h,h'⟩:=h;obtain⟨o,h0,g⟩:=qY h;obtain⟨o',aa,g'⟩:=qY h';refine⟨by rw[hB.1.1];simp,fun i hi=>?_⟩;rw[hB.1.1]at hi;simp only[List.mem_cons,List.not_mem_nil,or_false]at hi;rcases hi with rfl|rfl
     . exact sX E h0 g hS hP hF hd hn h2 fun I H' a' w' S' hk J U V Y X O Z w3 h3=>jT E F hQ t m _ I H' a' w' S' hB.1.2 hk J U V (hG.trans Y) (hN.trans X hG.le.N) O Z w3 h3
     . exact sX E aa g' hS hP hF hd hn h2 fun I H' a' w' S' hk J U V Y X O Z w3 h3=>jT E F hQ t' m _ I H' a' w' S' hB.2 hk J U V (hG.trans Y) (hN.trans X hG.le.N) O Z w3 h3
 | .a3 k t k' t' k'' t'',m,listed,ρ,H,a,w,S,hB,h,hS,hP,hF,hG,hN,hd,hn,w2,h2=>by
   cases m with
   | zero=>simp[gF]at hB
   | succ m=>
     simp only[gF,Bool.and_eq_true,decide_eq_true_eq]at hB;obtain⟨h,h',ae⟩:=h;obtain⟨o,h0,g⟩:=qY h;obtain⟨o',aa,g'⟩:=qY h';obtain⟨ai,ab,ah⟩:=qY ae;refine⟨by rw[hB.1.1.1];simp,fun i hi=>?_⟩;rw[hB.1.1.1]at hi;simp only[List.mem_cons,List.not_mem_nil,or_false]at hi;rcases hi with rfl|rfl|rfl
     . exact sX E h0 g hS hP hF hd hn h2 fun I H' a' w' S' hk J U V Y X O Z w3 h3=>jT E F hQ t m _ I H' a' w' S' hB.1.1.2 hk J U V (hG.trans Y) (hN.trans X hG.le.N) O Z w3 h3
     . exact sX E aa g' hS hP hF hd hn h2 fun I H' a' w' S' hk J U V Y X O Z w3 h3=>jT E F hQ t' m _ I H' a' w' S' hB.1.2 hk J U V (hG.trans Y) (hN.trans X hG.le.N) O Z w3 h3
     . exact sX E ab ah hS hP hF hd hn h2 fun I H' a' w' S' hk J U V Y X O Z w3 h3=>jT E F hQ t'' m _ I H' a' w' S' hB.2 hk J U V (hG.trans Y) (hN.trans X hG.le.N) O Z w3 h3
theorem QW{Q':Exit->Act->World->Prop}{id:Nat}{l:List Nat}{f:List (Nat×Bool)}(hm:P.follows .mixedOrders=true)(aj:∀o∈ops,kJ n o=true)(hl:∀k,k∈l->(H k).isSome=true)(hB:Of ops f=true)
   (h:∀Hp V:aK,(∀k,k∈l->Hp k=H k)->(∀k,k∉l->V k=H k)->(∀k,k∉l->Hp k=none)->(∀k,k∈l->V k=none)->rF P (bF P) (dP P) mt ops (nB l H K) Hp f ρ V)
   (hR:Rel n S0 w0 H0 ρ H a w) (hQ:∀ρ H a w,K ρ H->Rel n S0 w0 H0 ρ H a w->Q' .normal a w):(Code.region id ops true).wp P Q' a w:=by
 obtain⟨S,hS,hF,hG,hN,hd,hn⟩:=hR;simp only[Of,Bool.and_eq_true,decide_eq_true_eq]at hB;obtain⟨⟨hs,ax⟩,ak⟩:=hB
 let Hp:aK:=fun k=>if k∈l then H k else none
 let V:aK:=fun k=>if k∈l then none else H k
 have af:∀k,k∈l->Hp k=H k:=fun k E=>if_pos E
 have ah:∀k,k∉l->Hp k=none:=fun k E=>if_neg E
 have ag:∀k,k∉l->V k=H k:=fun k E=>if_neg E
 have Y:∀k,k∈l->V k=none:=fun k E=>if_pos E
 have J:∀k r,Hp k=some r->H k=some r/\k∈l:=fun k r E=>by
   by_cases h:k∈l
   . exact⟨by rw[<-af k h];exact E,h⟩
   . rw[ah k h]at E;cases E
 have U:∀k r,V k=some r->H k=some r/\k∉l:=fun k r E=>by
   by_cases h:k∈l
   . rw[Y k h]at E;cases E
   . exact⟨by rw[<-ag k h];exact E,h⟩
 let w1:World:={ w with drawn:=w.drawn+1 }
 have F:St S w1 H:=hS.after (Nat.le_refl _) fun _ _=>rfl
 have ai:Grow S w S w1:=hS.grow rfl rfl rfl (Nat.le_refl _) fun _ _=>rfl
 have av:FR S w1 ρ a:=hF.keep S.le_refl (ai.kept hS);have ar:St (S.pin Hp) w1 V:=by
   refine⟨fun k E=>.inl (F.ro_fz k E),fun k E=>?_,fun k r E=>(F.rows k r (U k r E).1).keep (S.le_pin Hp) (gE.refl S w1) (fun _ _=>rfl),fun k r E g X hf=>?_,fun k k' r r' E aa ad g X ae=>F.disj k k' r r' (U k r E).1 (U k' r' aa).1 ad g X ae,F.tabs⟩
   . rcases E with h1|⟨i,r,hi,X⟩
     . exact F.fz_lt k h1
     . exact(F.rows i r (J i r hi).1).block_lt X
   . rcases hf with h1|⟨i,r',hi,ae⟩
     . exact F.free k r (U k r E).1 g X h1
     . exact F.disj k i r r' (U k r E).1 (J i r' hi).1 (fun e=>(U k r E).2 (e▸(J i r' hi).2)) g X ae
 have au:Pin (S.pin Hp) w1 Hp:=by
   refine⟨fun k r E=>(F.rows k r (J k r E).1).keep (S.le_pin Hp) (gE.refl S w1) (fun _ _=>rfl),fun k r E g X=>⟨.inr ⟨k,r,E,X⟩,fun h1=>F.free k r (J k r E).1 g X (F.ro_fz g h1)⟩,fun k k' r r' E aa ad g X=>F.disj k k' r r' (J k r E).1 (J k' r' aa).1 ad g X⟩
 refine wp_region_any hm (tP (C:=Cb (S.pin Hp) w1) (R:=Rw) Rw.refl _ _ _ _ ?_);have:=zC (Q':=Q') (Hp:=Hp) (K:=nB l H K) (S0:=S.pin Hp) (w0:=w1) (H0:=V) aj hs (fun an H' a' w' S' E am aw ap I al ao ay=>by
   have ac:∀k,k∈l->H' k=none:=fun k E=>by
     obtain⟨r,hr⟩:=Option.isSome_iff_exists.1 (hl k E);exact al k (hS.rows k r hr).lt (Y k E)
   let Hm:aK:=fun k=>if k∈l then H k else H' k
   have Z:∀k,k∈l->Hm k=H k:=fun k E=>if_pos E
   have ab:∀k,k∉l->Hm k=H' k:=fun k E=>if_neg E
   refine hQ an Hm a' w' (E ac Hm Z ab) ⟨S'.unpin Hp,aw.merge am (fun k r E=>?_),ap.keep (S'.le_unpin Hp) (gE.refl S' w'),?_,?_,ao,ay⟩
   . by_cases O:k∈l
     . right;rw[af k O,<-Z k O];exact E
     . left;rw[<-ab k O];exact E
   . refine hG.trans (ai.trans ⟨⟨I.le.ro, I.le.N, I.le.loc, I.le.sz⟩, fun k E => ⟨I.fz k (.inl E), fun ⟨i, r, hi, hb⟩ => by
       have aq:=F.rows i r (J i r hi).1;have e:S'.loc i=S.loc i:=I.le.loc i aq.lt;rw[show(S'.loc i)=S.loc i from e]at hb;exact F.free i r (J i r hi).1 k hb E⟩,I.os,I.tape,I.output,I.size,fun k E=>I.same k (.inl E),fun k E=>by
       rcases I.newro k E with h2|h2
       . exact .inl h2
       . exact .inr fun h3=>h2 (.inl h3)⟩)
   . intro k E h0
     have hH:=hN k E h0;by_cases O:k∈l
     . rw[Z k O];exact hH
     . rw[ab k O]
       exact al k (Nat.lt_of_lt_of_le E hG.le.N) (by rw[ag k O];exact hH)) f (Array.replicate ops.size false) ρ V a w1 (S.pin Hp) ak (h Hp V af ag ah Y) ar au (av.keep (S.le_pin Hp) (gE.refl S w1)) (Grow.refl _ _) (fS.refl _ _) hd hn w1 (Rw.refl w1)
 rw[ax]at this;exact this
theorem TQ{Q':Exit->Act->World->Prop}{id:Nat}{l:List Nat}{t:Mx}(hm:P.follows .mixedOrders=true)(aj:∀o∈ops,kJ n o=true)(hl:∀k,k∈l->(H k).isSome=true)(hB:Kp ops t=true)
   (h:∀Hp V:aK,(∀k,k∈l->Hp k=H k)->(∀k,k∉l->V k=H k)->(∀k,k∉l->Hp k=none)->(∀k,k∈l->V k=none)->nL P (bF P) (dP P) mt ops (nB l H K) Hp t ρ V)
   (hR:Rel n S0 w0 H0 ρ H a w) (hQ:∀ρ H a w,K ρ H->Rel n S0 w0 H0 ρ H a w->Q' .normal a w):(Code.region id ops true).wp P Q' a w:=by
 obtain⟨S,hS,hF,hG,hN,hd,hn⟩:=hR;simp only[Kp,Bool.and_eq_true]at hB;obtain⟨hs,ak⟩:=hB
 let Hp:aK:=fun k=>if k∈l then H k else none
 let V:aK:=fun k=>if k∈l then none else H k
 have af:∀k,k∈l->Hp k=H k:=fun k E=>if_pos E
 have ah:∀k,k∉l->Hp k=none:=fun k E=>if_neg E
 have ag:∀k,k∉l->V k=H k:=fun k E=>if_neg E
 have Y:∀k,k∈l->V k=none:=fun k E=>if_pos E
 have J:∀k r,Hp k=some r->H k=some r/\k∈l:=fun k r E=>by
   by_cases h:k∈l
   . exact⟨by rw[<-af k h];exact E,h⟩
   . rw[ah k h]at E;cases E
 have U:∀k r,V k=some r->H k=some r/\k∉l:=fun k r E=>by
   by_cases h:k∈l
   . rw[Y k h]at E;cases E
   . exact⟨by rw[<-ag k h];exact E,h⟩
 let w1:World:={ w with drawn:=w.drawn+1 }
 have F:St S w1 H:=hS.after (Nat.le_refl _) fun _ _=>rfl
 have ai:Grow S w S w1:=hS.grow rfl rfl rfl (Nat.le_refl _) fun _ _=>rfl
 have av:FR S w1 ρ a:=hF.keep S.le_refl (ai.kept hS);have ar:St (S.pin Hp) w1 V:=by
   refine⟨fun k E=>.inl (F.ro_fz k E),fun k E=>?_,fun k r E=>(F.rows k r (U k r E).1).keep (S.le_pin Hp) (gE.refl S w1) (fun _ _=>rfl),fun k r E g X hf=>?_,fun k k' r r' E aa ad g X ae=>F.disj k k' r r' (U k r E).1 (U k' r' aa).1 ad g X ae,F.tabs⟩
   . rcases E with h1|⟨i,r,hi,X⟩
     . exact F.fz_lt k h1
     . exact(F.rows i r (J i r hi).1).block_lt X
   . rcases hf with h1|⟨i,r',hi,ae⟩
     . exact F.free k r (U k r E).1 g X h1
     . exact F.disj k i r r' (U k r E).1 (J i r' hi).1 (fun e=>(U k r E).2 (e▸(J i r' hi).2)) g X ae
 have au:Pin (S.pin Hp) w1 Hp:=by
   refine⟨fun k r E=>(F.rows k r (J k r E).1).keep (S.le_pin Hp) (gE.refl S w1) (fun _ _=>rfl),fun k r E g X=>⟨.inr ⟨k,r,E,X⟩,fun h1=>F.free k r (J k r E).1 g X (F.ro_fz g h1)⟩,fun k k' r r' E aa ad g X=>F.disj k k' r r' (J k r E).1 (J k' r' aa).1 ad g X⟩
 refine wp_region_any hm (tP (C:=Cb (S.pin Hp) w1) (R:=Rw) Rw.refl _ _ _ _ ?_);have:=jT (Q':=Q') (Hp:=Hp) (K:=nB l H K) (S0:=S.pin Hp) (w0:=w1) (H0:=V) aj hs (fun an H' a' w' S' E am aw ap I al ao ax=>by
   have ac:∀k,k∈l->H' k=none:=fun k E=>by
     obtain⟨r,hr⟩:=Option.isSome_iff_exists.1 (hl k E);exact al k (hS.rows k r hr).lt (Y k E)
   let Hm:aK:=fun k=>if k∈l then H k else H' k
   have Z:∀k,k∈l->Hm k=H k:=fun k E=>if_pos E
   have ab:∀k,k∉l->Hm k=H' k:=fun k E=>if_neg E
   refine hQ an Hm a' w' (E ac Hm Z ab) ⟨S'.unpin Hp,aw.merge am (fun k r E=>?_),ap.keep (S'.le_unpin Hp) (gE.refl S' w'),?_,?_,ao,ax⟩
   . by_cases O:k∈l
     . right;rw[af k O,<-Z k O];exact E
     . left;rw[<-ab k O];exact E
   . refine hG.trans (ai.trans ⟨⟨I.le.ro, I.le.N, I.le.loc, I.le.sz⟩, fun k E => ⟨I.fz k (.inl E), fun ⟨i, r, hi, hb⟩ => by
       have aq:=F.rows i r (J i r hi).1;have e:S'.loc i=S.loc i:=I.le.loc i aq.lt;rw[show(S'.loc i)=S.loc i from e]at hb;exact F.free i r (J i r hi).1 k hb E⟩,I.os,I.tape,I.output,I.size,fun k E=>I.same k (.inl E),fun k E=>by
       rcases I.newro k E with h2|h2
       . exact .inl h2
       . exact .inr fun h3=>h2 (.inl h3)⟩)
   . intro k E h0
     have hH:=hN k E h0;by_cases O:k∈l
     . rw[Z k O];exact hH
     . rw[ab k O]
       exact al k (Nat.lt_of_lt_of_le E hG.le.N) (by rw[ag k O];exact hH)) t ops.size (Array.replicate ops.size false) ρ V a w1 (S.pin Hp) ak (h Hp V af ag ah Y) ar au (av.keep (S.le_pin Hp) (gE.refl S w1)) (Grow.refl _ _) (fS.refl _ _) hd hn w1 (Rw.refl w1)
 exact this
end
end Go.Aw
end
section
namespace Go.Aw
open Go.RowKit
section
variable{P:Program}{n:Nat}{S0:Sg}{w0:World}{H0:aK}{mt:Nat->Bool}{ops:Array Oper}{K:Env->aK->Prop}{ρ:Env}{H:aK}{a:Act}{w:World}{S:Sg}
theorem FS(E:∀o∈ops,kJ n o=true){Q':Exit->Act->World->Prop}(O:∀ρ H a w,K ρ H->Rel n S0 w0 H0 ρ H a w->Q' .normal a w):
   ∀(l:List Oper) (ρ:Env) (H:aK) (a:Act) (w:World),(∀o∈l,kJ n o=true)->xR P (bF P) (dP P) mt false ops K l ρ H->Rel n S0 w0 H0 ρ H a w->wpList P ops Q' l a w
 | [],ρ,H,a,w,_,h,hR=>O ρ H a w h hR
 | o::rest,ρ,H,a,w,hl,h,hR=>by
   obtain⟨S,hS,Y,U,X,hd,hn⟩:=hR;have J:=xD (K':=wpList P ops Q' rest) (Q':=Q') E hS Y U X hd hn (hl o (by simp))
     (fun I H' Z w' hk hr=>FS E O rest I H' Z w' (fun o V=>hl o (by simp[V])) hk hr) h
   unfold wpList;by_cases F:Region.wanted o (yielded ops a.tmps)=true
   . rw[if_pos F];exact .inl (J.1 F)
   . rw[if_neg F];exact J.2 (by simpa using F)
def Cls(S:Sg)(H:aK)(w1 w:World):Prop:=
 w.os=w1.os/\w.tape=w1.tape/\w.output=w1.output/\w1.heap.size<=w.heap.size/\∀k,k<w1.heap.size->w.heap[k]?=w1.heap[k]?
theorem Cls.st{w1:World}(E:St S w1 H)(h:Cls S H w1 w):St S w H:=E.after h.2.2.2.1 h.2.2.2.2
theorem Cls.grow{w1:World}(E:St S w1 H)(h:Cls S H w1 w):Grow S w1 S w:=E.grow h.1 h.2.1 h.2.2.1 h.2.2.2.1 h.2.2.2.2
theorem Cls.agree{w1:World}(E:St S w1 H)(h:Cls S H w1 w):Agree S H w1 w:=
 ⟨(h.grow E).kept E,fun k r F g I=>h.2.2.2.2 g ((E.rows k r F).block_lt I)⟩
theorem SN{P:Program}{o:Oper}{a:Act}{w w1:World}{v:Value}(E:Cls S H w1 w)(h:o.quietAt P a (Rw w) w v):o.quietAt P a (Cls S H w1) w v:=by
 unfold Oper.quietAt at *;generalize (execOp a.eval o).run P w=r at *;cases r with
 | ok m w'=>
   cases m <;> simp only[Oper.quietUpon]at h |-
   case value u=>exact h
   case skip=>exact h
   case enter f args=>exact⟨h.1,h.2.mono fun e Y ⟨J,V,I,X,U,O⟩=>⟨J,V.trans E.1,I.trans E.2.1,X.trans E.2.2.1,Nat.le_trans E.2.2.2.1 U,fun k F=>(O k (Nat.lt_of_lt_of_le F E.2.2.2.1)).trans (E.2.2.2.2 k F)⟩⟩
 | halt x w'=>simp only[Oper.quietUpon]at h
theorem Gq{w1:World}(F:∀o∈ops,kJ n o=true)(U:St S w1 H):∀(l:List Oper) (ρ:Env) (a:Act),(∀o∈l,kJ n o=true)->xR P (bF P) (dP P) mt true ops K l ρ H->FR S w1 ρ a->a.defers=[]->a.tmps.size=n ->
   wpQuiet P ops (Cls S H w1) (fun I=>∃E,K E H/\FR S w1 E I/\I.defers=[]/\I.tmps.size=n) l a
 | [],ρ,a,_,h,hF,hd,hn=>⟨ρ,h,hF,hd,hn⟩
 | o::rest,ρ,a,hl,h,hF,hd,hn=>by
   obtain⟨z,X,h1,Y⟩:=wP (CC:=Cls S H w1) (fun w J=>⟨J.st U,J.agree U⟩) F U hF hn (hl o (by simp)) h;have next:∀v,rep S w1 z v->wpQuiet P ops (Cls S H w1) (fun I=>∃E,K E H/\FR S w1 E I/\I.defers=[]/\I.tmps.size=n) rest (a.put o.dst v):=fun v V=>
     Gq F U rest _ _ (fun o Z=>hl o (by simp[Z])) X (FR.put hF V) (by rw[oA];exact hd) (by rw[wJ];exact hn)
   unfold wpQuiet;by_cases O:Region.wanted o (yielded ops a.tmps)=true
   . rw[if_pos O]
     obtain⟨v,V,hq⟩:=h1 O;exact⟨v,fun w J=>SN J (hq w J),next v V⟩
   . rw[if_neg O]
     exact next _ (Y (by simpa using O))
end
theorem yN{P:Program}{ops:Array Oper}{C:World->Prop}{Q Q':Act->Prop}(E:∀a,Q a->Q' a):∀(l:List Oper) (a:Act),wpQuiet P ops C Q l a->wpQuiet P ops C Q' l a
 | [],a,h=>E a h
 | o::rest,a,h=>by
   unfold wpQuiet at h |-;split
   . rename_i F
     rw[if_pos F]at h;exact Oper.quiet_mono (fun J I=>yN E rest J I) h
   . rename_i F
     rw[if_neg F]at h;exact yN E rest _ h
def Av(n:Nat):Code->Bool
 | .region _ ops _=>ops.all (kJ n)
 | .seq a b=>Av n a&&Av n b
 | .cond c a b=>opB n c&&(Av n a&&Av n b)
 | .block _ c=>Av n c
 | .loop c=>Av n c
 | .scope c=>Av n c
 | _=>true
def VL(n:Nat)(S0:Sg)(w0:World)(H0:aK)(Q:Ex->Env->aK->Prop):Exit->Act->World->Prop
 | .normal,a,w=>∃ρ H,Q .normal ρ H/\Rel n S0 w0 H0 ρ H a w
 | .exit id,a,w=>∃ρ H,Q (.exit id) ρ H/\Rel n S0 w0 H0 ρ H a w
 | .ret,a,w=>∃ρ H,Q .ret ρ H/\Rel n S0 w0 H0 ρ H a w
 | _,_,_=>False
theorem oO{P:Program}{n:Nat}{S0:Sg}{w0:World}{H0:aK}{mt:Nat->Bool}(X:P.follows .mixedOrders=true):∀(c:Code) (Q:Ex->Env->aK->Prop) (ρ:Env) (H:aK) (a:Act) (w:World),Av n c=true ->
   awp P (bF P) (dP P) mt c Q ρ H->Rel n S0 w0 H0 ρ H a w->c.wp P (VL n S0 w0 H0 Q) a w
 | .skip,Q,ρ,H,a,w,_,h,F=>wp_skip ⟨ρ,H,h,F⟩
 | .region id ops false,Q,ρ,H,a,w,hb,h,F=>by
   rw[HI]at h;have E:∀o∈ops,kJ n o=true:=fun o ho=>Array.all_eq_true_iff_forall_mem.1 hb o ho
   exact wp_region_list (FS E (fun ρ H a w J V=>⟨ρ,H,J,V⟩) ops.toList ρ H a w (fun o ho=>E o (Array.mem_toList_iff.1 ho)) h F)
 | .region id ops true,Q,ρ,H,a,w,hb,h,F=>by
   rw[OH]at h;have E:∀o∈ops,kJ n o=true:=fun o ho=>Array.all_eq_true_iff_forall_mem.1 hb o ho
   rcases h with⟨_,ab,h⟩|⟨hB,h⟩|⟨f,hB,h⟩|⟨l,f,hl,hB,h⟩|⟨l,t,hl,hB,h⟩
   . obtain⟨S,hS,hF,hG,hN,hd,hn⟩:=F
     let w1:World:={ w with drawn:=w.drawn+1 }
     have Y:St S w1 H:=hS.after (Nat.le_refl _) fun _ _=>rfl
     have aa:Grow S w S w1:=hS.grow rfl rfl rfl (Nat.le_refl _) fun _ _=>rfl
     have ag:FR S w1 ρ a:=hF.keep S.le_refl (aa.kept hS);refine wp_region_quiet (C:=Cls S H w1) X ab ⟨rfl,rfl,rfl,Nat.le_refl _,fun _ _=>rfl⟩ ?_;have:=Gq E Y ops.toList ρ a (fun o ho=>E o (Array.mem_toList_iff.1 ho)) h ag hd hn;refine yN (fun a' ⟨O,J,ah,af,ai⟩ w' hc=>?_) ops.toList a this;exact⟨O,H,J,S,hc.st Y,ah.keep S.le_refl ((hc.grow Y).kept Y),hG.trans (aa.trans (hc.grow Y)),hN,af,ai⟩
   . exact QT X E hB h F fun ρ H a w J V=>⟨ρ,H,J,V⟩
   . exact Xa X E hB h F fun ρ H a w J V=>⟨ρ,H,J,V⟩
   . exact QW X E hl hB h F fun ρ H a w J V=>⟨ρ,H,J,V⟩
   . exact TQ X E hl hB h F fun ρ H a w J V=>⟨ρ,H,J,V⟩
 | .seq c d,Q,ρ,H,a,w,hb,h,F=>by
   simp only[Av,Bool.and_eq_true]at hb;rw[Ue]at h;refine wp_seq (wp_mono (oO X c _ ρ H a w hb.1 h F) fun e a' w' U=>?_);cases e <;> simp only[VL,Exit.then]at U |-
   case normal=>obtain⟨O,H',J,V⟩:=U;exact oO X d Q O H' a' w' hb.2 J V
   case exit id=>exact U
   case ret=>exact U
 | .cond c x y,Q,ρ,H,a,w,hb,h,F=>by
   simp only[Av,Bool.and_eq_true]at hb;rw[M9]at h;unfold Ai at h;split at h
   . rename_i t ht
     obtain⟨S,hS,hF,hG,hN,hd,hn⟩:=F;have e:=cV hF (x:=c) (hn▸hb.1);rw[ht]at e;simp only[rep]at e;have F:Rel n S0 w0 H0 ρ H a w:=⟨S,hS,hF,hG,hN,hd,hn⟩;exact wp_cond_split e (fun ht=>oO X x Q ρ H a w hb.2.1 (h.1 ht) F) (fun ht=>oO X y Q ρ H a w hb.2.2 (h.2 ht) F)
   . exact h.elim
 | .block id c,Q,ρ,H,a,w,hb,h,F=>by
   rw[Jy]at h;refine wp_block (wp_mono (oO X c _ ρ H a w hb h F) fun e a' w' U=>?_);cases e <;> simp only[VL,Exit.inBlock]at U |-
   case normal=>exact U
   case ret=>exact U
   case exit i=>
     obtain⟨O,H',J,V⟩:=U;simp only[Ex.blk]at J;by_cases e:i=id
     . rw[if_pos e]at J |-;exact⟨O,H',J,V⟩
     . rw[if_neg e]at J |-;exact⟨O,H',J,V⟩
 | .loop c,Q,ρ,H,a,w,hb,h,F=>by
   rw[Pw]at h;obtain⟨I,μ,h0,Z⟩:=h;refine wp_loop_ghost (fun m a w=>∃ρ H,I ρ H/\μ ρ H=m/\Rel n S0 w0 H0 ρ H a w) (μ ρ H) ⟨ρ,H,h0,rfl,F⟩ ?_;rintro m a' w' ⟨O,H',hI,rfl,ad⟩;refine wp_mono (oO X c _ O H' a' w' hb (Z O H' hI) ad) fun e a2 w2 U=>?_
   cases e <;> simp only[VL,Exit.then]at U |-
   case normal=>obtain⟨ac,H2,⟨J,ae⟩,V⟩:=U;exact⟨_,ae,ac,H2,J,rfl,V⟩
   case exit id=>exact U
   case ret=>exact U
 | .exit id,Q,ρ,H,a,w,_,h,F=>wp_exit ⟨ρ,H,h,F⟩
 | .ret,Q,ρ,H,a,w,_,h,F=>wp_ret ⟨ρ,H,h,F⟩
 | .rangeFunc ..,_,_,_,_,_,_,h,_=>by simp[awp]at h
 | .scope c,Q,ρ,H,a,w,hb,h,F=>by
   rw[Kf]at h;refine wp_scope_straight (wp_mono (oO X c _ ρ H a w hb h F) fun e a' w' U=>?_);cases e <;> simp only[VL,Exit.noGoto]at U |-
   case normal=>exact U
   case exit id=>exact U
   case ret=>exact U
 | .label _,Q,ρ,H,a,w,_,h,F=>wp_label ⟨ρ,H,h,F⟩
 | .goto _,_,_,_,_,_,_,h,_=>by simp[awp]at h
 | .refuse _,_,_,_,_,_,_,h,_=>by simp[awp]at h
def EI(P:Program)(ρ:Env)(H:aK):List ResultVar->(List AV->Prop)->Prop
 | [],K=>K []
 | .tmp t::r,K=>EI P ρ H r fun l=>K (ρ t::l)
 | .cell t ty::r,K=>match ldT P ty with
   | some l=>pM none H l (ρ t) fun x=>EI P ρ H r fun xs=>K (x::xs)
   | none=>False
def Vs(R:AV->Prop):List AV->Prop
 | [x]=>R x
 | l=>R (.tup l)
def IJ(P:Program)(rs:List ResultVar)(R:AV->aK->Prop):Ex->Env->aK->Prop
 | .exit _,_,_=>False
 | _,ρ,H=>EI P ρ H rs (Vs fun x=>R x H)
def alI(n:Nat):ResultVar->Bool
 | .tmp t=>decide (t<n)
 | .cell t _=>decide (t<n)
def BG(fn:Func)(c:Code)(m:Nat):Bool:=Av fn.ntmps c&&fn.results.toList.all (alI fn.ntmps)&&decide (m<=fn.ntmps)
section
variable{P:Program}{S:Sg}{H:aK}{w:World}{ρ:Env}{a:Act}
theorem WF{G:Option Bool}{l:Option Nat}{x:AV}{K:AV->Prop}(h:pM G H l x K){u:Value}(E:rep S w x u):∃F,u=.pointer (some F):=by
 unfold pM at h;split at h
 . simp only[rep]at E
   obtain⟨b,o,rfl,_⟩:=E;exact⟨_,rfl⟩
 . simp only[rep]at E
   obtain⟨_,g,m,c,_,rfl⟩:=E;exact⟨_,rfl⟩
 . exact h.elim
def Lp(tmps:Array Value):ResultVar->Sem Value
 | .tmp t=>pure (tmps.getD t undef)
 | .cell b t=>do loadVar t (<-asAddr (tmps.getD b undef))
theorem Sp(fn:Func)(E:Array Value):results fn E=(do
   let vs <-fn.results.mapM (Lp E)
   pure (if h:vs.size=1 then vs[0]else .tuple vs)):=by
 unfold results
 congr 1
theorem AA(U:AK S w H)(F:FR S w ρ a):∀(rs:List ResultVar) (K:List AV->Prop),(∀r∈rs,alI a.tmps.size r=true)->EI P ρ H rs K ->
   ∃l vs,K l/\(rs.mapM (Lp a.tmps)).run P w=.ok vs w/\bG S w l vs
 | [],K,_,h=>⟨[],[],h,by simp,by simp[bG]⟩
 | .tmp t::r,K,hb,h=>by
   simp only[EI]at h;obtain⟨l,vs,h1,O,X⟩:=AA U F r _ (fun x V=>hb x (by simp[V])) h;have J:t<a.tmps.size:=by simpa[alI]using hb (.tmp t) (by simp)
   refine⟨_,a.tmps.getD t undef::vs,h1,?_,?_⟩
   . rw[List.mapM_cons]
     simp only[Lp,Sem.run_bind,Sem.run_pure,Result.andThen_ok];rw[O];rfl
   . simp only[bG]
     exact⟨_,_,rfl,F t J,X⟩
 | .cell t ty::r,K,hb,h=>by
   simp only[EI]at h;split at h
   . rename_i l hl
     have J:t<a.tmps.size:=by simpa[alI]using hb (.cell t ty) (by simp)
     obtain⟨z,Y,Z⟩:=Et (S:=S) (w:=w) hl U h;obtain⟨v,hv,I⟩:=Z trivial _ (F t J);obtain⟨ad,e⟩:=WF h (F t J);have E:=I w (Agree.refl S H w);rw[e]at E;simp only[Instr.loadAt,Instr.sureAddr,pure_bind]at E;obtain⟨l',vs,h1,O,X⟩:=AA U F r _ (fun x V=>hb x (by simp[V])) Y;refine⟨_,v::vs,h1,?_,?_⟩
     . have ha:(asAddr (a.tmps.getD t undef)).run P w=.ok ad w:=by rw[e];rfl
       rw[List.mapM_cons];simp only[Lp,Sem.run_bind,ha,Sem.run_pure,Result.andThen_ok,E];rw[O];rfl
     . simp only[bG]
       exact⟨_,_,rfl,hv,X⟩
   . exact h.elim
theorem bF.body{f:FuncId}{fn:Func}{c:Code}{args:List AV}{R:AV->aK->Prop}(mt:Nat->Bool)(hm:P.follows .mixedOrders=true)(hf:P.funcs[f]?=some fn)(hb:fn.body=some c)(hc:BG fn c args.length=true)
   (h:awp P (bF P) (dP P) mt c (IJ P fn.results.toList R) (DH args) H):bF P f args H R:=by
 intro S w vals hS ha;simp only[BG,Bool.and_eq_true,decide_eq_true_eq]at hc;obtain⟨⟨J,V⟩,ah⟩:=hc;have aa:=iC _ _ ha;refine calls_of_wp hf hb (wp_mono (oO (n:=fn.ntmps) (S0:=S) (w0:=w) (H0:=H) hm c _ _ H _ w J h ⟨S,hS,?_,Grow.refl S w,fS.refl _ _,rfl,?_⟩) ?_)
 . intro t ht
   by_cases e:t<args.length
   . obtain⟨u,h1,F⟩:=CL args vals t ha e
     have hu:(vals.toArray++Array.replicate (fn.ntmps-vals.toArray.size) undef).getD t undef=u:=by
       have O:t<vals.length:=by omega
       have:vals[t]=u:=by rw[List.getElem?_eq_getElem O]at h1;injection h1
       simp[Array.getD_eq_getD_getElem?,Array.getElem?_append,O,this]
     simp only[DH];rw[hu];exact F
   . simp only[DH,List.getD,List.getElem?_eq_none (by omega:args.length<=t),Option.getD_none]
     simp only[rep]
 . simp only[Array.size_append,List.size_toArray,Array.size_replicate,aa]
   omega
 . intro e Z w' hq
   have U:∀E H',EI P E H' fn.results.toList (Vs fun x=>R x H')->Rel fn.ntmps S w H E H' Z w'->Z.defers=[]/\∃v,(results fn Z.tmps).run P w'=.ok v w'/\apH S w H R (.returned v) w':=by
     rintro E H' h1 ⟨S',I,af,Y,X,ad,ag⟩;refine⟨ad,?_⟩;obtain⟨l,vs,F,h3,h4⟩:=AA (P:=P) I.rows af fn.results.toList _ (fun r hr=>by rw[ag];exact List.all_eq_true.1 V r hr) h1;have hr:(results fn Z.tmps).run P w'=.ok (if h:vs.toArray.size=1 then vs.toArray[0]else .tuple vs.toArray) w':=by
       rw[Sp,Array.mapM_eq_mapM_toList];simp only[Sem.run_bind,Sem.run_map];rw[h3];simp only[Result.andThen_ok,Sem.run_pure]
     refine⟨_,hr,?_⟩;unfold Vs at F;split at F
     . rename_i x
       simp only[bG]at h4;obtain⟨u,t,rfl,h5,rfl⟩:=h4;exact⟨_,x,H',S',rfl,F,I,by simpa using h5,Y,X⟩
     . rename_i ab
       have ae:=iC _ _ h4;have ac:¬vs.toArray.size=1:=by
         intro e;have:l.length=1:=by rw[<-ae];simpa using e
         match l,this with
         | [x],_=>exact ab x rfl
       rw[dif_neg ac];exact⟨_,_,H',S',rfl,F,I,by simp only[rep];exact⟨vs,rfl,h4⟩,Y,X⟩
   cases e <;> simp only[VL,bodyPost]at hq |-
   case normal=>obtain⟨E,H',h1,F⟩:=hq;exact U E H' h1 F
   case ret=>obtain⟨E,H',h1,F⟩:=hq;exact U E H' h1 F
   case exit id=>obtain⟨E,H',h1,F⟩:=hq;exact h1.elim
theorem RC.body{f:FuncId}{fn:Func}{c:Code}{args:List AV}{R:AV->aK->Prop}(mt:Nat->Bool)(U:P.follows .mixedOrders=true)(I:P.funcs[f]?=some fn)(F:fn.body=some c)(O:BG fn c args.length=true)
 (h:awp P (bF P) (dP P) mt c (IJ P fn.results.toList R) (DH args) bV):RC P f args R:=fun S w vals J _ E=>bF.body mt U I F O h S w vals J E
theorem PC.body{f:FuncId}{fn:Func}{c:Code}{args:List AV}{r:AV}(mt:Nat->Bool)(J:P.follows .mixedOrders=true)(F:P.funcs[f]?=some fn)(E:fn.body=some c)(I:BG fn c args.length=true)
 (h:awp P (bF P) (dP P) mt c (IJ P fn.results.toList fun x H'=>Conv H' x r) (DH args) bV):PC P f args r:=RC.conv (RC.body mt J F E I h)
theorem NC.body{f:FuncId}{fn:Func}{c:Code}{args:List AV}{row:Row}{E:Nat->AV}(mt:Nat->Bool)(O:P.follows .mixedOrders=true)(I:P.funcs[f]?=some fn)(F:fn.body=some c)(J:BG fn c args.length=true)
 (h:awp P (bF P) (dP P) mt c (IJ P fn.results.toList fun x H'=>∃k,x=E k/\H' k=some row) (DH args) bV):NC P f args row E:=RC.body mt O I F J h
theorem PC.q{f:FuncId}{args:List AV}{r:AV}(h:PC P f args r)(E:(fv r).isSome=true):dP P f args H r:=.inl ⟨args,ConvL.refl args,h,E⟩
theorem PC.qn{f:FuncId}{args:List AV}{r:AV}(h:PC P f args r):dP P f args H (.nf r):=.inr ⟨r,rfl,h⟩
theorem dP.use{f:FuncId}{args:List AV}{r:AV}{K:AV->aK->Prop}(h:Cw P f args H r)(E:K r H):bF P f args H K:=Cw.use h E
end
end Go.Aw
end
