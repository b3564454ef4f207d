import Derived.MapKept
import Derived.Lib.ItoaMem
import Derived.Lib.TrailingZeros
import Derived.Test.YtdlijlecpopadaaGreatDoorZu01
set_option linter.unusedSimpArgs false
set_option linter.unusedVariables false
set_option maxRecDepth 100000
section
namespace Go.Aw
open Go.RowKit
structure Sg where
 ro:Nat->Prop
 fz:Nat->Prop
 loc:Nat->Value
 sz:Nat->Nat
 N:Nat
mutual
def rep(S:Sg)(w:World):AV->Value->Prop
 | .v x,y=>y=x
 | .any,_=>True
 | .sl es,y=>∃ad n c,y=.slice ad n c/\es.length=n/\n<=c/\c<=maxLen/\(es=[]\/∃b o sz,ad=some ⟨b,o,none⟩/\S.ro b/\0<sz/\iG S w b sz o es)
 | .rp cs off,y=>∃b o,y=.pointer (some ⟨b,o+off,none⟩)/\S.ro b/\cU S w b o cs
 | .agg cs,y=>∃l:List Value,y=.agg l.toArray/\bC S w cs l/\∀u∈l,u.oneCell'=true
 | .tup vs,y=>∃l:List Value,y=.tuple l.toArray/\bC S w vs l
 | .os k,y=>k<S.N/\y=S.loc k/\∃a n c,y=.slice a n c
 | .op k i f,y=>k<S.N/\∃g n c,S.loc k=.slice (some ⟨g,0,none⟩) n c/\y=.pointer (some ⟨g,i*S.sz k+f,none⟩)
 | .gd g x,y=>(g=true->rep S w x y)/\(g=false->y=undef)
 | .nf x,y=>rep S w x y
 | .fn f cap,y=>∃l:List Value,y=.func (.func f) #[] l.toArray/\bC S w cap l
 | .om k,y=>k<S.N/\y=S.loc k/\∃g,y=.map (some g)
 | .cl es,y=>∃ad n,y=.slice ad n n/\es.length=n/\n<=maxLen/\(es=[]\/∃b o sz,ad=some ⟨b,o,none⟩/\S.ro b/\0<sz/\iG S w b sz o es)
 | .oz k a b,y=>k<S.N/\∃ad n c ad' cc,S.loc k=.slice ad n c/\y=.slice ad' (b-a) cc/\a<=b/\b<=n/\(a<b->∃g,ad=some ⟨g,0,none⟩/\ad'=some ⟨g,a*S.sz k,none⟩)/\(a=0->ad'=ad/\cc=c)
def bC(S:Sg)(w:World):List AV->List Value->Prop
 | [],l=>l=[]
 | x::r,l=>∃u t,l=u::t/\rep S w x u/\bC S w r t
def cU(S:Sg)(w:World)(b:Nat):Nat->List AV->Prop
 | _,[]=>True
 | o,x::r=>(∃u,w.cell? ⟨b,o,none⟩=some u/\u.oneCell'=true/\rep S w x u)/\cU S w b (o+1) r
def iG(S:Sg)(w:World)(b sz:Nat):Nat->List (List AV)->Prop
 | _,[]=>True
 | o,cs::r=>cs.length=sz/\cU S w b o cs/\iG S w b sz (o+sz) r
end
structure Sg.le(S S':Sg):Prop where
 ro:∀k,S.ro k->S'.ro k
 N:S.N<=S'.N
 loc:∀k,k<S.N->S'.loc k=S.loc k
 sz:∀k,k<S.N->S'.sz k=S.sz k
theorem Sg.le_refl(S:Sg):S.le S:=⟨fun _ h=>h,Nat.le_refl _,fun _ _=>rfl,fun _ _=>rfl⟩
theorem Sg.le_trans{S S' F:Sg}(h:S.le S')(I:S'.le F):S.le F:=
 ⟨fun k E=>I.ro k (h.ro k E),Nat.le_trans h.N I.N,fun k E=>(I.loc k (Nat.lt_of_lt_of_le E h.N)).trans (h.loc k E),
   fun k E=>(I.sz k (Nat.lt_of_lt_of_le E h.N)).trans (h.sz k E)⟩
def blk:Value->Option Nat
 | .slice (some a) _ _=>some a.block
 | .map (some g)=>some g
 | _=>none
def fR(S:Sg)(w w':World):Prop:=∀k,S.ro k->w'.heap[k]?=w.heap[k]?
theorem fR.refl(S:Sg)(w:World):fR S w w:=fun _ _=>rfl
section
variable{S S':Sg}{w w':World}
theorem fR.cell(h:fR S w w'){b o:Nat}(E:S.ro b):w'.cell? ⟨b,o,none⟩=w.cell? ⟨b,o,none⟩:=World.cell?_of_block (a:=⟨b,o,none⟩) (h b E)
mutual
theorem lD(E:S.le S')(F:fR S w w'):∀(x:AV) (y:Value),rep S w x y->rep S' w' x y
 | .v _,_,h=>h
 | .any,_,_=>trivial
 | .sl es,y,h=>by
   simp only[rep]at h |-;obtain⟨Y,n,c,rfl,h1,h2,h3,J⟩:=h;refine⟨Y,n,c,rfl,h1,h2,h3,?_⟩;rcases J with J|⟨b,o,sz,rfl,I,X,Z⟩
   . exact .inl J
   . exact .inr ⟨b,o,sz,rfl,E.ro b I,X,AZ E F I sz o es Z⟩
 | .rp cs off,y,h=>by
   simp only[rep]at h |-;obtain⟨b,o,rfl,I,hc⟩:=h;exact⟨b,o,rfl,E.ro b I,wK E F I o cs hc⟩
 | .agg cs,y,h=>by
   simp only[rep]at h |-;obtain⟨l,rfl,O,h1⟩:=h;exact⟨l,rfl,dQ E F cs l O,h1⟩
 | .tup vs,y,h=>by
   simp only[rep]at h |-;obtain⟨l,rfl,O⟩:=h;exact⟨l,rfl,dQ E F vs l O⟩
 | .os k,y,h=>by
   simp only[rep]at h |-;exact⟨Nat.lt_of_lt_of_le h.1 E.N,by rw[E.loc k h.1];exact h.2⟩
 | .op k i f,y,h=>by
   simp only[rep]at h |-;refine⟨Nat.lt_of_lt_of_le h.1 E.N,?_⟩;rw[E.loc k h.1,E.sz k h.1];exact h.2
 | .gd g x,y,h=>by
   simp only[rep]at h |-;exact⟨fun hg=>lD E F x y (h.1 hg),h.2⟩
 | .nf x,y,h=>by
   simp only[rep]at h |-;exact lD E F x y h
 | .fn f cap,y,h=>by
   simp only[rep]at h |-;obtain⟨l,rfl,O⟩:=h;exact⟨l,rfl,dQ E F cap l O⟩
 | .om k,y,h=>by
   simp only[rep]at h |-;exact⟨Nat.lt_of_lt_of_le h.1 E.N,by rw[E.loc k h.1];exact h.2⟩
 | .oz k a b,y,h=>by
   simp only[rep]at h |-;refine⟨Nat.lt_of_lt_of_le h.1 E.N,?_⟩;rw[E.loc k h.1,E.sz k h.1];exact h.2
 | .cl es,y,h=>by
   simp only[rep]at h |-;obtain⟨Y,n,rfl,h1,h3,J⟩:=h;refine⟨Y,n,rfl,h1,h3,?_⟩;rcases J with J|⟨b,o,sz,rfl,I,X,Z⟩
   . exact .inl J
   . exact .inr ⟨b,o,sz,rfl,E.ro b I,X,AZ E F I sz o es Z⟩
theorem dQ(F:S.le S')(E:fR S w w'):∀(x:List AV) (l:List Value),bC S w x l->bC S' w' x l
 | [],_,h=>h
 | x::r,l,h=>by
   simp only[bC]at h |-;obtain⟨u,t,rfl,h1,I⟩:=h;exact⟨u,t,rfl,lD F E x u h1,dQ F E r t I⟩
theorem wK(F:S.le S')(E:fR S w w'){b:Nat}(I:S.ro b):∀(o:Nat) (x:List AV),cU S w b o x->cU S' w' b o x
 | _,[],_=>trivial
 | o,x::r,h=>by
   simp only[cU]at h |-;obtain⟨⟨u,h1,X,O⟩,J⟩:=h;exact⟨⟨u,by rw[E.cell I];exact h1,X,lD F E x u O⟩,wK F E I (o+1) r J⟩
theorem AZ(I:S.le S')(E:fR S w w'){b:Nat}(F:S.ro b)(sz:Nat):∀(o:Nat) (x:List (List AV)),iG S w b sz o x->iG S' w' b sz o x
 | _,[],_=>trivial
 | o,x::r,h=>by
   simp only[iG]at h |-;exact⟨h.1,wK I E F o x h.2.1,AZ I E F sz (o+sz) r h.2.2⟩
end
theorem yU:∀(cs:List AV) (o j:Nat) {b:Nat},cU S w b o cs->j<cs.length->∃u,w.cell? ⟨b,o+j,none⟩=some u/\u.oneCell'=true/\rep S w (cs.getD j .any) u
 | [],_,_,_,_,h=>by simp at h
 | x::r,o,0,b,h,_=>by
   simp only[cU]at h;simpa using h.1
 | x::r,o,j+1,b,h,hj=>by
   simp only[cU]at h;have:=yU r (o+1) j h.2 (by simpa using hj);rw[show o+1+j=o+(j+1)by omega]at this;simpa using this
theorem wA:∀(cs:List AV) (o j:Nat) {b:Nat},cU S w b o cs->cU S w b (o+j) (cs.drop j)
 | [],_,_,_,_=>by simp[cU]
 | x::r,o,0,b,h=>by simpa using h
 | x::r,o,j+1,b,h=>by
   simp only[cU]at h;have:=wA r (o+1) j h.2;rw[show o+1+j=o+(j+1)by omega]at this;simpa using this
theorem wW:∀(cs:List AV) (o j:Nat) {b:Nat},cU S w b o cs->cU S w b o (cs.take j)
 | [],_,_,_,_=>by simp[cU]
 | x::r,o,0,b,h=>by simp[cU]
 | x::r,o,j+1,b,h=>by
   simp only[cU,List.take_succ_cons]at h |-;exact⟨h.1,wW r (o+1) j h.2⟩
theorem mM:∀(cs:List AV) (o:Nat) {b:Nat},cU S w b o cs->∃l:List Value,l.length=cs.length/\bC S w cs l/\(∀u∈l,u.oneCell'=true)/\∀j u,l[j]?=some u->w.cell? ⟨b,o+j,none⟩=some u
 | [],_,_,_=>⟨[],rfl,by simp[bC],by simp,by simp⟩
 | x::r,o,b,h=>by
   simp only[cU]at h;obtain⟨⟨u,h1,Z,Y⟩,J⟩:=h;obtain⟨l,I,O,F,X⟩:=mM r (o+1) J;refine⟨u::l,by simp[I],?_,?_,?_⟩
   . simp only[bC]
     exact⟨u,l,rfl,Y,O⟩
   . intro v E
     rcases List.mem_cons.1 E with rfl|E
     . exact Z
     . exact F v E
   . intro j v E
     cases j with
     | zero=>simp at E;subst E;simpa using h1
     | succ j=>rw[show o+(j+1)=o+1+j by omega];exact X j v (by simpa using E)
theorem sB:∀(es:List (List AV)) (o i:Nat) {b sz:Nat},iG S w b sz o es->i<es.length->(es.getD i []).length=sz/\cU S w b (o+i*sz) (es.getD i [])
 | [],_,_,_,_,_,h=>by simp at h
 | x::r,o,0,b,sz,h,_=>by
   simp only[iG]at h;simpa using⟨h.1,h.2.1⟩
 | x::r,o,i+1,b,sz,h,hi=>by
   simp only[iG]at h;have:=sB r (o+sz) i h.2.2 (by simpa using hi);rw[show o+sz+i*sz=o+(i+1)*sz by rw[Nat.add_mul];omega]at this;simpa using this
theorem AX:∀(es:List (List AV)) (o i:Nat) {b sz:Nat},iG S w b sz o es->iG S w b sz (o+i*sz) (es.drop i)
 | [],_,_,_,_,_=>by simp[iG]
 | x::r,o,0,b,sz,h=>by simpa using h
 | x::r,o,i+1,b,sz,h=>by
   simp only[iG]at h;have:=AX r (o+sz) i h.2.2;rw[show o+sz+i*sz=o+(i+1)*sz by rw[Nat.add_mul];omega]at this;simpa using this
theorem wM:∀(es:List (List AV)) (o i:Nat) {b sz:Nat},iG S w b sz o es->iG S w b sz o (es.take i)
 | [],_,_,_,_,_=>by simp[iG]
 | x::r,o,0,b,sz,h=>by simp[iG]
 | x::r,o,i+1,b,sz,h=>by
   simp only[iG,List.take_succ_cons]at h |-;exact⟨h.1,h.2.1,wM r _ i h.2.2⟩
theorem sL:∀(xs E:List AV) (o:Nat) {b:Nat},cU S w b o (xs++E)↔cU S w b o xs/\cU S w b (o+xs.length) E
 | [],E,o,b=>by simp[cU]
 | x::r,E,o,b=>by
   simp only[List.cons_append,cU,sL r E (o+1),List.length_cons,show o+1+r.length=o+(r.length+1)by omega,and_assoc]
theorem vX:∀(es:List (List AV)) (o:Nat) {b sz:Nat},iG S w b sz o es->cU S w b o es.flatten
 | [],_,_,_,_=>by simp[cU]
 | x::r,o,b,sz,h=>by
   simp only[iG]at h;rw[List.flatten_cons,sL];refine⟨h.2.1,?_⟩;rw[h.1];exact vX r _ h.2.2
theorem qD:∀(es:List (List AV)) (o:Nat) {b sz:Nat},(∀cs∈es,cs.length=sz)->cU S w b o es.flatten->iG S w b sz o es
 | [],_,_,_,_,_=>by simp[iG]
 | x::r,o,b,sz,hl,h=>by
   rw[List.flatten_cons,sL]at h;have E:=hl x (by simp);rw[E]at h;simp only[iG];exact⟨E,h.1,qD r _ (fun cs F=>hl cs (by simp[F])) h.2⟩
theorem oO:∀(es:List (List AV)) {sz:Nat},(∀cs∈es,cs.length=sz)->es.flatten.length=es.length*sz
 | [],_,_=>by simp
 | x::r,sz,hl=>by
   rw[List.flatten_cons,List.length_append,hl x (by simp),oO r (fun cs E=>hl cs (by simp[E])),List.length_cons,Nat.add_mul];omega
theorem iD:∀(x:List AV) (l:List Value),bC S w x l->l.length=x.length
 | [],l,h=>by simp only[bC]at h;simp[h]
 | x::r,l,h=>by
   simp only[bC]at h;obtain⟨u,t,rfl,_,E⟩:=h;simp[iD r t E]
theorem BD:∀(x:List AV) (l:List Value) (j:Nat),bC S w x l->j<x.length->∃u,l[j]?=some u/\rep S w (x.getD j .any) u
 | [],_,_,_,h=>by simp at h
 | x::r,l,j,h,hj=>by
   simp only[bC]at h;obtain⟨u,t,rfl,h1,I⟩:=h;cases j with
   | zero=>exact⟨u,by simp,by simpa using h1⟩
   | succ j=>
     obtain⟨v,E,F⟩:=BD r t j I (by simpa using hj);exact⟨v,by simpa using E,by simpa using F⟩
theorem dJ:∀(x y:List AV) (l m:List Value),bC S w x l->bC S w y m->bC S w (x++y) (l++m)
 | [],y,l,m,h,h'=>by simp only[bC]at h;subst h;simpa using h'
 | x::r,y,l,m,h,h'=>by
   simp only[bC]at h;obtain⟨u,t,rfl,h1,E⟩:=h;simp only[List.cons_append,bC];exact⟨u,t++m,rfl,h1,dJ r y t m E h'⟩
theorem vO:∀(x:List AV) (l:List Value) (j:Nat),bC S w x l->bC S w (x.drop j) (l.drop j)
 | [],l,j,h=>by simp only[bC]at h;subst h;simp[bC]
 | x::r,l,j,h=>by
   cases j with
   | zero=>simpa using h
   | succ j=>
     simp only[bC]at h;obtain⟨u,t,rfl,_,E⟩:=h;simpa using vO r t j E
theorem sC:∀(x:List AV) (l:List Value) (j:Nat),bC S w x l->bC S w (x.take j) (l.take j)
 | [],l,j,h=>by simp only[bC]at h;subst h;simp[bC]
 | x::r,l,j,h=>by
   cases j with
   | zero=>simp[bC]
   | succ j=>
     simp only[bC]at h;obtain⟨u,t,rfl,h1,E⟩:=h;simp only[List.take_succ_cons,bC];exact⟨u,t.take j,rfl,h1,sC r t j E⟩
theorem jS:∀(x:List AV) (l:List Value) (o:Nat) {b:Nat},bC S w x l->(∀u∈l,u.oneCell'=true)->(∀j u,l[j]?=some u->w.cell? ⟨b,o+j,none⟩=some u)->cU S w b o x
 | [],_,_,_,_,_,_=>by simp[cU]
 | x::r,l,o,b,h,h1,hc=>by
   simp only[bC]at h;obtain⟨u,t,rfl,I,F⟩:=h;simp only[cU];refine⟨⟨u,by simpa using hc 0 u (by simp),h1 u (by simp),I⟩,jS r t (o+1) F (fun v E=>h1 v (by simp[E])) fun j v E=>?_⟩;rw[show o+1+j=o+(j+1)by omega];exact hc (j+1) v (by simpa using E)
end
end Go.Aw
end
section
namespace Go.Aw
open Go.RowKit
def lG(S:Sg)(w:World):Nat->List (List AV)->List MapEntry->Prop
 | _,[],ms=>ms=[]
 | i,cs::r,ms=>∃m t,ms=m::t/\m.born=i/\bC S w cs [m.key,m.val]/\lG S w (i+1) r t
def Ks(S:Sg)(w:World)(k:Nat)(r:Row):Prop:=∃xs,w.ownsRow 0 r.e r.sz (S.loc k) r.es.length xs/\bC S w r.es.flatten xs/\∀u∈xs,u.oneCell'=true
def aaC(S:Sg)(w:World)(k:Nat)(r:Row):Prop:=∃g ms,S.loc k=.map (some g)/\w.heap[g]?=some (.map (List.toArray ms) ms.length)/\lG S w 0 r.es ms/\r.sz=2
theorem alY(a:Option Addr)(n c:Nat):blk (.slice a n c)=(Value.slice a n c).ownBlock:=by cases a <;> rfl
structure RowOK(S:Sg)(w:World)(k:Nat)(r:Row):Prop where
 lt:k<S.N
 sz:r.sz=S.sz k
 pos:0<r.sz
 len:∀cs∈r.es,cs.length=r.sz
 own:Ks S w k r\/aaC S w k r
def xZ(S:Sg)(w:World)(H:aJ):Prop:=∀k r,H k=some r->RowOK S w k r
theorem RowOK.sl{S:Sg}{w:World}{k:Nat}{r:Row}(h:RowOK S w k r){a:Option Addr}{n c:Nat}(E:S.loc k=.slice a n c):Ks S w k r:=by
 rcases h.own with h1|⟨g,F,h1,_⟩
 . exact h1
 . rw[E]at h1;cases h1
theorem RowOK.mp{S:Sg}{w:World}{k:Nat}{r:Row}(h:RowOK S w k r){g:Nat}(E:S.loc k=.map (some g)):aaC S w k r:=by
 rcases h.own with⟨xs,F,_⟩|h1
 . rcases F.2 with⟨hv,_⟩|⟨_,_,_,hv,_⟩ <;> (rw[E]at hv;cases hv)
 . exact h1
structure Agree(S:Sg)(H:aJ)(w w':World):Prop where
 kept:fR S w w'
 own:∀k r,H k=some r->∀g,blk (S.loc k)=some g->w'.heap[g]?=w.heap[g]?
theorem Agree.refl(S:Sg)(H:aJ)(w:World):Agree S H w w:=⟨fR.refl S w,fun _ _ _ _ _=>rfl⟩
def wC(P:Program)(S:Sg)(H:aJ)(w:World)(z:AV)(e:Sem Value):Prop:=
 ∃v,rep S w z v/\∀w',Agree S H w w'->e.run P w'=.ok v w'
section
variable{P:Program}{S:Sg}{H:aJ}{w:World}{G:Option Bool}{K:AV->Prop}
theorem lY{x:Value}:rep S w (.v x) x:=by simp only[rep]
theorem vB{t:TypeId}{l:Option Nat}(h:ldT P t=some l):∃d,P.underlying t=some d /\
   match l with
   | none=>(∀fs,d≠.struct fs)/\∀n e,d≠.array n e
   | some n=>((∃fs,d=.struct fs)\/∃m e,d=.array m e)/\∃i,P.info? t=some i/\i.size=n:=by
 unfold ldT at h;cases E:P.underlying t with
 | none=>rw[E]at h;simp at h
 | some d=>
   refine⟨d,rfl,?_⟩;rw[E]at h;cases hi:P.info? t with
   | none=>rw[hi]at h;cases d <;> simp at h
   | some i=>
     rw[hi]at h;cases d <;> simp at h <;> subst h <;> simp
theorem rM{t:TypeId}{l:Option Nat}(h:ldT P t=some l)(w:World):(isAgg t).run P w=.ok l.isSome w:=by
 obtain⟨d,F,E⟩:=vB h;cases l with
 | none=>
   obtain⟨h1,I⟩:=E;simp only[isAgg,Sem.run_bind,run_underlying F,Result.andThen];cases d <;> simp_all
 | some n=>
   obtain⟨h1,_⟩:=E;simp only[isAgg,Sem.run_bind,run_underlying F,Result.andThen];rcases h1 with⟨fs,rfl⟩|⟨m,e,rfl⟩ <;> simp
theorem uQ{t:TypeId}{n:Nat}(h:ldT P t=some (some n))(w:World):(sizeOf t).run P w=.ok n w:=by
 obtain⟨d,F,E⟩:=vB h;obtain⟨_,i,hi,rfl⟩:=E;simp[sizeOf,typeInfo,hi]
theorem xO{t:TypeId}(h:ldT P t=some none){a:Addr}{v:Value}(E:w.cell? a=some v):(loadVar t a).run P w=.ok v w:=by
 simp[loadVar,rM h,E]
theorem vM{t:TypeId}{l:List Value}(h:ldT P t=some (some l.length)){b o:Nat}(F:∀j v,l[j]?=some v->w.cell? ⟨b,o+j,none⟩=some v):
   (loadVar t ⟨b,o,none⟩).run P w=.ok (.agg l.toArray) w:=by
 have:=run_loadCells_list (P:=P) w ⟨b,o,none⟩ l (fun j v E=>by rw[Addr.add_lit];exact F j v E);simp[loadVar,rM h,uQ h,this]
theorem RowOK.cells{k:Nat}{r:Row}(h:RowOK S w k r){Z:Option Addr}{n0 O:Nat}(J:S.loc k=.slice Z n0 O)(E:r.es≠[]):∃g n c,S.loc k=.slice (some ⟨g,0,none⟩) n c/\cU S w g 0 r.es.flatten/\n=r.es.length:=by
 obtain⟨xs,I,hr,h1⟩:=h.sl J;rcases I.2 with⟨_,X⟩|⟨g,cap,cur,F,_⟩
 . exact absurd (List.eq_nil_of_length_eq_zero X) E
 . refine⟨g,_,cap,F,?_,rfl⟩
   refine jS _ xs 0 hr h1 fun j u Y=>?_
   have:=I.cells (g:=g) (by rw[F];rfl) j u Y
   rwa [Addr.add_lit]at this
theorem RowOK.els{k:Nat}{r:Row}(h:RowOK S w k r){I:Option Addr}{O J:Nat}(F:S.loc k=.slice I O J)(E:r.es≠[]):∃g n c,S.loc k=.slice (some ⟨g,0,none⟩) n c/\iG S w g r.sz 0 r.es/\n=r.es.length:=by
 obtain⟨g,n,c,h1,Y,X⟩:=h.cells F E;exact⟨g,n,c,h1,qD _ _ h.len Y,X⟩
theorem Agree.cell{w':World}(E:Agree S H w w'){b o:Nat}{u:Value}(F:S.ro b)(h:w.cell? ⟨b,o,none⟩=some u):w'.cell? ⟨b,o,none⟩=some u:=(E.kept.cell F).trans h
theorem Agree.cellOwn{w':World}(F:Agree S H w w'){k g n c o:Nat}{r:Row}{u:Value}(I:H k=some r)(E:S.loc k=.slice (some ⟨g,0,none⟩) n c)(h:w.cell? ⟨g,o,none⟩=some u):w'.cell? ⟨g,o,none⟩=some u:=by
 have:=F.own k r I g (by rw[E];rfl);exact(World.cell?_of_block (a:=⟨g,o,none⟩) this).trans h
theorem DD{t:TypeId}{l:Option Nat}{x:AV}(Z:ldT P t=some l)(hH:xZ S w H)(h:oJ G H l x K):
   ∃z,K z/\(gt G->∀u,rep S w x u->wC P S H w z (Instr.loadAt t u)):=by
 unfold oJ at h;split at h
 . rename_i cs off
   cases l with
   | none=>
     refine⟨_,h.2,fun O u J=>?_⟩;simp only[rep]at J;obtain⟨b,o,rfl,hb,hc⟩:=J;obtain⟨v,h1,_,h3⟩:=yU cs o off hc (h.1 O);refine⟨v,h3,fun w' Y=>?_⟩;simp[Instr.loadAt,Instr.sureAddr,xO Z (Y.cell hb h1)]
   | some n=>
     refine⟨_,h.2,fun O u J=>?_⟩;simp only[rep]at J;obtain⟨b,o,rfl,hb,hc⟩:=J;obtain⟨l,I,e2,e3,e4⟩:=mM _ _ (wW _ _ n (wA cs o off hc));have aa:=h.1 O;have hn:l.length=n:=by rw[I];simp;omega
     refine⟨.agg l.toArray,by simp only[rep];exact⟨l,rfl,e2,e3⟩,fun w' Y=>?_⟩;rw[<-hn]at Z;simp[Instr.loadAt,Instr.sureAddr,vM Z (fun j v hj=>Y.cell hb (e4 j v hj))]
 . rename_i k i f
   split at h
   . rename_i r hk
     have hr:=hH k r hk;cases l with
     | none=>
       refine⟨_,h.2,fun O u J=>?_⟩;simp only[rep]at J;obtain⟨_,g,n,c,F,rfl⟩:=J;obtain⟨hi,hf⟩:=h.1 O;have X:r.es≠[]:=fun e=>by rw[e]at hi;simp at hi
       obtain⟨g',n',c',E,he,_⟩:=hr.els F X;rw[F]at E;injection E with I e2 e3;injection I with I;injection I with I;subst I;obtain⟨e4,e5⟩:=sB _ 0 i he hi;obtain⟨v,h1,_,h3⟩:=yU _ _ f e5 (by rw[e4];exact hf);refine⟨v,h3,fun w' Y=>?_⟩;rw[<-hr.sz];rw[Nat.zero_add]at h1;simp[Instr.loadAt,Instr.sureAddr,xO Z (Y.cellOwn hk F h1)]
     | some m=>
       refine⟨_,h.2,fun O u J=>?_⟩;simp only[rep]at J;obtain⟨_,g,n,c,F,rfl⟩:=J;obtain⟨hi,hf⟩:=h.1 O;have X:r.es≠[]:=fun e=>by rw[e]at hi;simp at hi
       obtain⟨g',n',c',E,he,_⟩:=hr.els F X;rw[F]at E;injection E with I e2 e3;injection I with I;injection I with I;subst I;obtain⟨e4,e5⟩:=sB _ 0 i he hi;obtain⟨l,I,e2,e3,e6⟩:=mM _ _ (wW _ _ m (wA _ _ f e5));have hn:l.length=m:=by rw[I,List.length_take,List.length_drop,e4];omega
       refine⟨.agg l.toArray,by simp only[rep];exact⟨l,rfl,e2,e3⟩,fun w' Y=>?_⟩;rw[<-hn]at Z;rw[<-hr.sz];rw[Nat.zero_add]at e6;simp[Instr.loadAt,Instr.sureAddr,vM Z (fun j v hj=>Y.cellOwn hk F (e6 j v hj))]
   . exact h.elim
 . exact h.elim
theorem oZ{t:TypeId}(h:ldT P t=some none){l:List Value}{o:Nat}{u:Value}(E:l[o]?=some u):(part t l.toArray o).run P w=.ok u w:=by
 simp[part,rM h,E]
theorem GP{t:TypeId}{n:Nat}(h:ldT P t=some (some n)){l:List Value}{o:Nat}:(part t l.toArray o).run P w=.ok (.agg ((l.drop o).take n).toArray) w:=by
 simp[part,rM h,uQ h,List.extract_eq_take_drop]
theorem DV{t:TypeId}{l:Option Nat}{x:AV}{off:Nat}(F:ldT P t=some l)(h:apart G off l x K):
   ∃z,K z/\(gt G->∀u,rep S w x u->∃cs:Array Value,u=.agg cs/\wC P S H w z (part t cs off)):=by
 unfold apart at h;split at h
 . rename_i cs
   cases l with
   | none=>
     refine⟨_,h.2,fun I u E=>?_⟩;simp only[rep]at E;obtain⟨l,rfl,h1,_⟩:=E;obtain⟨v,J,O⟩:=BD cs l off h1 (h.1 I);exact⟨_,rfl,v,O,fun w' _=>oZ F J⟩
   | some n=>
     refine⟨_,h.2,fun I u E=>?_⟩;simp only[rep]at E;obtain⟨l,rfl,h1,X⟩:=E;refine⟨_,rfl,_,?_,fun w' _=>GP F⟩;simp only[rep];exact⟨_,rfl,sC _ _ n (vO _ _ off h1),fun u E=>X u (List.mem_of_mem_drop (List.mem_of_mem_take E))⟩
 . exact h.elim
theorem AK{t:TypeId}{f o:Nat}{l:Option Nat}(h:aP P t f=some (o,l)):
   ∃fs E i,P.underlying t=some (.struct fs)/\fs[f]?=some E/\E.offset=o/\P.info? E.type=some i/\i.size≠0/\ldT P E.type=some l:=by
 unfold aP at h;cases J:P.underlying t with
 | none=>simp[J]at h
 | some d=>
   cases d <;> simp only[J]at h <;> try (simp at h;done)
   rename_i fs
   cases I:fs[f]? with
   | none=>simp[I]at h
   | some E=>
     simp only[I]at h;cases hi:P.info? E.type with
     | none=>simp[hi]at h
     | some i=>
       simp only[hi]at h;split at h
       . simp at h
       . rename_i O
         cases F:ldT P E.type with
         | none=>simp[F]at h
         | some l'=>
           simp[F]at h;obtain⟨rfl,rfl⟩:=h;exact⟨fs,E,i,rfl,I,rfl,hi,O,F⟩
theorem DF{t:TypeId}{f o:Nat}{l:Option Nat}(h:aP P t f=some (o,l))(b p:Nat)(w:World):
   (Instr.fieldAt t (.pointer (some ⟨b,p,none⟩)) f).run P w=.ok (.pointer (some ⟨b,p+o,none⟩)) w:=by
 obtain⟨fs,J,i,I,E,rfl,hi,F,_⟩:=AK h;simp[Instr.fieldAt,run_underlying I,E,Instr.sureAddr,fieldPlace,sizeOf,typeInfo,hi,F,Addr.add_lit]
theorem CS{t:TypeId}{f:Nat}{x:AV}(h:kE P t f x K):
   ∃z,K z/\(gt G->∀u,rep S w x u->wC P S H w z (Instr.fieldAt t u f)):=by
 unfold kE at h;split at h
 . rename_i cs off
   split at h
   . rename_i o l F
     refine⟨_,h,fun _ u E=>?_⟩;simp only[rep]at E;obtain⟨b,p,rfl,O,J⟩:=E;refine⟨_,?_,fun w' _=>DF F b (p+off) w'⟩;simp only[rep];exact⟨b,p,by rw[Nat.add_assoc],O,J⟩
   . exact h.elim
 . rename_i k i g
   split at h
   . rename_i o l F
     refine⟨_,h,fun _ u E=>?_⟩;simp only[rep]at E;obtain⟨h1,b,n,c,I,rfl⟩:=E;refine⟨_,?_,fun w' _=>DF F b _ w'⟩;simp only[rep];exact⟨h1,b,n,c,I,by rw[Nat.add_assoc]⟩
   . exact h.elim
 . exact h.elim
theorem jG{t:TypeId}{e sz E:Nat}(h:bY P t=some (e,sz,E)):
   ∃i z,P.underlying t=some (.slice e)/\P.info? e=some i/\i.size=sz/\i.bytes=E/\0<sz/\0<E/\i.zero=some z/\z.cells.size=sz:=by
 unfold bY at h;cases O:P.underlying t with
 | none=>simp[O]at h
 | some d=>
   cases d <;> simp only[O]at h <;> try (simp at h;done)
   rename_i X
   cases hi:P.info? X with
   | none=>simp[hi]at h
   | some i=>
     simp only[hi]at h;split at h
     . simp at h
     . rename_i J
       simp at h;obtain⟨rfl,rfl,rfl⟩:=h;simp only[not_or,ne_eq,Decidable.not_not]at J;obtain⟨h1,Y,I⟩:=J;cases F:i.zero with
       | none=>simp[F]at I
       | some z=>
         simp[F]at I;exact⟨i,z,rfl,hi,rfl,rfl,by omega,by omega,F,I⟩
theorem IW{t:TypeId}{n s:Nat}{l:Option Nat}(h:uP P t=some (n,s,l)):
   ∃e i,P.underlying t=some (.array n e)/\P.info? e=some i/\i.size=s/\s≠0/\ldT P e=some l:=by
 unfold uP at h;cases F:P.underlying t with
 | none=>simp[F]at h
 | some d=>
   cases d <;> simp only[F]at h <;> try (simp at h;done)
   rename_i m e
   cases hi:P.info? e with
   | none=>simp[hi]at h
   | some i=>
     simp only[hi]at h;split at h
     . simp at h
     . rename_i I
       cases E:ldT P e with
       | none=>simp[E]at h
       | some l'=>
         simp[E]at h;obtain⟨rfl,rfl,rfl⟩:=h;exact⟨e,i,rfl,hi,rfl,I,E⟩
theorem yN{t:TypeId}{e sz E:Nat}(h:bY P t=some (e,sz,E))(b o len cap:Nat)(k:IntKind)(i:Int)(h0:0<=i)(h1:i<len)(w:World):
   (Instr.indexAt t (.slice (some ⟨b,o,none⟩) len cap) (.int k i)).run P w=.ok (.pointer (some ⟨b,o+i.toNat*sz,none⟩)) w:=by
 obtain⟨I,z,F,hi,rfl,_⟩:=jG h;simp[Instr.indexAt,run_underlying F,asIntOf,h0,h1,sizeOf,typeInfo,hi,Addr.add_lit]
theorem xS{t:TypeId}{n s:Nat}{l:Option Nat}(h:uP P t=some (n,s,l))(b o:Nat)(k:IntKind)(i:Int)(h0:0<=i)(h1:i<n)(w:World):
   (Instr.indexAt t (.pointer (some ⟨b,o,none⟩)) (.int k i)).run P w=.ok (.pointer (some ⟨b,o+i.toNat*s,none⟩)) w:=by
 obtain⟨e,E,F,hi,rfl,_⟩:=IW h;simp[Instr.indexAt,run_underlying F,asIntOf,h0,h1,Instr.sureAddr,sizeOf,typeInfo,hi,Addr.add_lit]
theorem DA{t:TypeId}{x i:AV}(hH:xZ S w H)(h:gE P G H t x i K):
   ∃z,K z/\(gt G->∀u v,rep S w x u->rep S w i v->wC P S H w z (Instr.indexAt t u v)):=by
 unfold gE at h;split at h
 . rename_i es k n
   split at h
   . rename_i e sz X he
     refine⟨_,h.2,fun O u v J I=>?_⟩;obtain⟨⟨h0,h1⟩,h2⟩:=h.1 O;simp only[rep]at J I;subst I;obtain⟨ad,m,c,rfl,e1,_,_,e2⟩:=J;rcases e2 with rfl|⟨b,o,ab,rfl,hb,_,Z⟩
     . simp at h1;omega
     . have F:n.toNat<es.length:=by omega
       obtain⟨e3,e4⟩:=sB es o n.toNat Z F;have ac:ab=sz:=by rw[<-e3,h2]
       subst ac;refine⟨_,?_,fun w' _=>yN he b o m c k n h0 (by omega) w'⟩;simp only[rep];exact⟨b,_,by rw[Nat.add_zero],hb,e4⟩
   . exact h.elim
 . rename_i k ik n
   split at h
   . rename_i r e sz X hk he
     refine⟨_,h.2,fun O u v J I=>?_⟩;obtain⟨⟨h0,h1⟩,h2⟩:=h.1 O;have hr:=hH k r hk;have aa:r.es≠[]:=fun e=>by rw[e]at h1;simp at h1;omega
     simp only[rep]at J I;subst I;obtain⟨F,rfl,_,_,_,Y⟩:=J;obtain⟨g,m,c,E,_,hm⟩:=hr.els Y aa;rw[E];refine⟨_,?_,fun w' _=>yN he g 0 m c ik n h0 (by omega) w'⟩;simp only[rep];exact⟨F,g,m,c,E,by rw[<-hr.sz,h2];simp⟩
   . exact h.elim
 . rename_i cs off k n
   split at h
   . rename_i m s l ha
     refine⟨_,h.2,fun O u v J I=>?_⟩;obtain⟨h0,h1⟩:=h.1 O;simp only[rep]at J I;subst I;obtain⟨b,o,rfl,hb,hc⟩:=J;refine⟨_,?_,fun w' _=>xS ha b (o+off) k n h0 h1 w'⟩;simp only[rep];exact⟨b,o,by rw[Nat.add_assoc],hb,hc⟩
   . exact h.elim
 . rename_i k j f ik n
   split at h
   . rename_i m s l ha
     refine⟨_,h.2,fun O u v J I=>?_⟩;obtain⟨h0,h1⟩:=h.1 O;simp only[rep]at J I;subst I;obtain⟨F,g,n',c,E,rfl⟩:=J;refine⟨_,?_,fun w' _=>xS ha g _ ik n h0 h1 w'⟩;simp only[rep];exact⟨F,g,n',c,E,by rw[Nat.add_assoc]⟩
   . exact h.elim
 . exact h.elim
theorem zT{t:TypeId}(h:cT P t=true):∃e,P.underlying t=some (.slice e):=by
 unfold cT at h;split at h
 . rename_i e E;exact⟨e,E⟩
 . simp at h
theorem gD{t:TypeId}(h:eI P t=true):P.underlying t=some .string:=by
 unfold eI at h;split at h
 . rename_i E;exact E
 . simp at h
theorem PI{t:TypeId}(h:Aj P t=true):P.underlying t=some .bool:=by
 unfold Aj at h;split at h
 . rename_i E;exact E
 . simp at h
theorem Gc{t ty:TypeId}{x:AV}(Y:xZ S w H)(h:G7 P H t x K):
   ∃z,K z/\(gt G->∀u,rep S w x u->wC P S H w z (Builtin.len_ #[t] ty #[u])):=by
 unfold G7 at h;split at h
 . rename_i es
   split at h
   . rename_i I
     obtain⟨e,J⟩:=zT I;refine⟨_,h,fun _ u E=>?_⟩;simp only[rep]at E;obtain⟨ad,m,c,rfl,X,_⟩:=E;refine⟨_,lY,fun w' _=>?_⟩;simp[Builtin.len_,run_underlying J,goInt,X]
   . exact h.elim
 . rename_i k
   split at h
   . rename_i r Z
     split at h
     . rename_i I
       obtain⟨e,J⟩:=zT I;refine⟨_,h,fun _ u E=>?_⟩;simp only[rep]at E;obtain⟨_,rfl,_,_,_,F⟩:=E;obtain⟨xs,ho,_⟩:=(Y k r Z).sl F;refine⟨_,lY,fun w' _=>?_⟩;rcases ho.2 with⟨O,hn⟩|⟨g,cap,cur,O,_⟩
       . simp[Builtin.len_,run_underlying J,goInt,O,hn]
       . simp[Builtin.len_,run_underlying J,goInt,O]
     . exact h.elim
   . exact h.elim
 . rename_i s
   split at h
   . rename_i I
     refine⟨_,h,fun _ u E=>?_⟩;simp only[rep]at E;subst E;refine⟨_,lY,fun w' _=>?_⟩;simp[Builtin.len_,run_underlying (gD I),goInt]
   . exact h.elim
 . exact h.elim
theorem FN{x y:AV}{tys:Array TypeId}{ty:TypeId}(h:PL x y K):
   ∃z,K z/\(gt G->∀u v,rep S w x u->rep S w y v->wC P S H w z (Builtin.max_ tys ty #[u,v])):=by
 unfold PL at h;split at h
 . refine⟨_,h,fun _ u v F E=>?_⟩
   simp only[rep]at F E;subst F;subst E;exact⟨_,lY,fun w' _=>by simp[Builtin.max_,Builtin.max2,gA]⟩
 . exact h.elim
theorem Fp{x y:AV}{tys:Array TypeId}{ty:TypeId}(h:P9 x y K):
   ∃z,K z/\(gt G->∀u v,rep S w x u->rep S w y v->wC P S H w z (Builtin.min_ tys ty #[u,v])):=by
 unfold P9 at h;split at h
 . refine⟨_,h,fun _ u v F E=>?_⟩
   simp only[rep]at F E;subst F;subst E;exact⟨_,lY,fun w' _=>by simp[Builtin.min_,Builtin.min2,wF]⟩
 . exact h.elim
end
end Go.Aw
end
section
namespace Go.Aw
open Go.RowKit
section
variable{P:Program}{S:Sg}{H:aJ}{w:World}{G:Option Bool}{K:AV->Prop}
theorem iZ{z:AV}{e:Sem Value}{v:Value}(E:rep S w z v)(h:∀w',e.run P w'=.ok v w'):wC P S H w z e:=⟨v,E,fun w' _=>h w'⟩
theorem mC{t:TypeId}{c:Nat}(h:tY P t=some c):(c=0/\∃k,P.underlying t=some (.int k))\/(c=1/\P.underlying t=some .string)\/(c=2/\P.underlying t=some .bool):=by
 unfold tY at h;split at h <;> simp_all
theorem TR{t:TypeId}{c:Nat}(h:tY P t=some c)(hi:(P.info? t).isSome=true):ldT P t=some none:=by
 obtain⟨i,hi⟩:=Option.isSome_iff_exists.1 hi;unfold ldT;rw[hi];rcases mC h with⟨_,k,hk⟩|⟨_,hk⟩|⟨_,hk⟩ <;> rw[hk]
theorem vQ{t:TypeId}{c:Nat}{x y:AV}{u v:Value}{b:Bool}{d:Nat}(J:tY P t=some c)(h:xK c x y=some b)(I:rep S w x u)(F:rep S w y v)(w':World):
   (Op.equalIn (d+1) t u v).run P w'=.ok b w':=by
 unfold xK at h;split at h
 . split at h
   . simp only[rep]at I F
     subst I F
     rename_i O
     subst O;simp at h;rcases mC J with⟨_,k',E⟩|⟨h0,_⟩|⟨h0,_⟩
     . rw[run_equalIn_int w' d t _ k' _ _ E,h]
     . simp at h0
     . simp at h0
   . simp at h
 . simp only[rep]at I F
   subst I F;rcases mC J with⟨h0,_⟩|⟨_,E⟩|⟨h0,_⟩
   . simp at h0
   . rw[run_equalIn_string w' d t _ _ E]
     injection h with h;rw[h]
   . simp at h0
 . simp only[rep]at I F
   subst I F;rcases mC J with⟨h0,_⟩|⟨h0,_⟩|⟨_,E⟩
   . simp at h0
   . simp at h0
   . rw[run_equalIn_bool' w' d t _ _ E]
     injection h with h;rw[h]
 . simp at h
theorem tU:∀(fs:List Field) (l:List Nat) (xs ys:List AV) (o:Nat) (us vs pu pv:List Value) (b:Bool) (d:Nat),
   pM P o fs=some l->iH l xs ys=some b->bC S w xs us->bC S w ys vs->pu.length=o->pv.length=o->∀w':World,
   (Op.eqFields (d+1) (pu++us).toArray (pv++vs).toArray fs).run P w'=.ok b w'
 | [],l,xs,ys,o,us,vs,pu,pv,b,d,E,he,_,_,_,_,w'=>by
   simp only[pM]at E;injection E with E;subst E;cases xs <;> cases ys <;> simp[iH]at he;subst he;simp[Op.eqFields]
 | f::fs,l,xs,ys,o,us,vs,pu,pv,b,d,E,he,hx,hy,e1,e2,w'=>by
   simp only[pM]at E;split at E
   . rename_i hc
     simp only[Bool.and_eq_true,bne_iff_ne,ne_eq,beq_iff_eq]at hc;obtain⟨⟨hn,ho⟩,hi⟩:=hc;cases O:tY P f.type with
     | none=>simp[O]at E
     | some c=>
       cases hr:pM P (o+1) fs with
       | none=>simp[O,hr]at E
       | some l'=>
         simp[O,hr]at E;subst E;cases xs with
         | nil=>simp[iH]at he
         | cons x xs=>
           cases ys with
           | nil=>simp[iH]at he
           | cons y ys=>
             simp only[iH]at he;cases F:xK c x y with
             | none=>simp[F,O6]at he
             | some b1=>
               cases I:iH l' xs ys with
               | none=>simp[F,I,O6]at he
               | some b2=>
                 simp[F,I,O6]at he;simp only[bC]at hx hy;obtain⟨u,Y,rfl,hu,aa⟩:=hx;obtain⟨v,J,rfl,hv,Z⟩:=hy;have X:=TR O hi;have p1:∀w':World,(part f.type (pu++u::Y).toArray f.offset).run P w'=.ok u w':=fun w'=>oZ (w:=w') X (by rw[ho,<-e1];simp)
                 have p2:∀w':World,(part f.type (pv++v::J).toArray f.offset).run P w'=.ok v w':=fun w'=>oZ (w:=w') X (by rw[ho,<-e2];simp)
                 have q:=vQ (d:=d) O F hu hv;have ih:=tU fs l' xs ys (o+1) Y J (pu++[u]) (pv++[v]) b2 d hr I aa Z (by simp[e1]) (by simp[e2]) w';simp only[List.append_assoc,List.singleton_append]at ih;simp only[Op.eqFields,hn,ne_eq,not_false_eq_true,if_true,Sem.run_bind,p1,p2,q,Result.andThen_ok,Sem.run_ite];subst he;cases b1
                 . simp
                 . simp only[Bool.not_true,Bool.false_eq_true,if_false,Bool.true_and]
                   exact ih
   . simp at E
theorem Bv{e:TypeId}{c:Nat}(Y:tY P e=some c)(hi:(P.info? e).isSome=true){d:Nat}:∀(m i:Nat) (xs ys:List AV) (us vs pu pv:List Value) (b:Bool),
   iH (List.replicate m c) xs ys=some b->bC S w xs us->bC S w ys vs->pu.length=i->pv.length=i->∀w':World,
   ((forIn (m := Sem) (List.range' i m) ((none, ()) : Option Bool × Unit) (fun i _ => do
         if !(<-Op.equalIn (d+1) e (<-part e (pu++us).toArray (i*1)) (<-part e (pv++vs).toArray (i*1)))then pure (ForInStep.done (some false,()))
         else pure (ForInStep.yield (none,())))).run P w').andThen (fun r w'=>Sem.run P (match r.1 with
       | some x=>pure x
       | none=>pure true:Sem Bool) w')=.ok b w'
 | 0,i,xs,ys,us,vs,pu,pv,b,he,_,_,_,_,w'=>by
   cases xs <;> cases ys <;> simp[iH]at he;subst he;simp
 | m+1,i,xs,ys,us,vs,pu,pv,b,he,hx,hy,e1,e2,w'=>by
   rw[List.replicate_succ]at he;cases xs with
   | nil=>simp[iH]at he
   | cons x xs=>
     cases ys with
     | nil=>simp[iH]at he
     | cons y ys=>
       simp only[iH]at he;cases E:xK c x y with
       | none=>simp[E,O6]at he
       | some b1=>
         cases F:iH (List.replicate m c) xs ys with
         | none=>simp[E,F,O6]at he
         | some b2=>
           simp[E,F,O6]at he;simp only[bC]at hx hy;obtain⟨u,J,rfl,hu,Z⟩:=hx;obtain⟨v,O,rfl,hv,X⟩:=hy;have I:=TR Y hi;have p1:∀w':World,(part e (pu++u::J).toArray (i*1)).run P w'=.ok u w':=fun w'=>oZ (w:=w') I (by rw[Nat.mul_one,<-e1];simp)
           have p2:∀w':World,(part e (pv++v::O).toArray (i*1)).run P w'=.ok v w':=fun w'=>oZ (w:=w') I (by rw[Nat.mul_one,<-e2];simp)
           have q:=vQ (d:=d) Y E hu hv;have ih:=Bv Y hi (d:=d) m (i+1) xs ys J O (pu++[u]) (pv++[v]) b2 F Z X (by simp[e1]) (by simp[e2]) w';simp only[List.append_assoc,List.singleton_append]at ih;simp only[List.range'_succ,List.forIn_cons,Sem.run_bind,p1,p2,q,Result.andThen_ok,Sem.run_ite,bind_assoc];subst he;cases b1
           . simp
           . simp only[Bool.not_true,Bool.false_eq_true,if_false,Bool.true_and,Sem.run_pure,Result.andThen_ok]
             exact ih
theorem CZ{t:TypeId}{l:List Nat}(h:xP P t=some l){xs F:List AV}{b:Bool}(he:iH l xs F=some b){J vs:List Value}
   (hx:bC S w xs J) (hy:bC S w F vs) (d:Nat) (w':World):(Op.equalIn (d+2) t (.agg J.toArray) (.agg vs.toArray)).run P w'=.ok b w':=by
 unfold xP at h;split at h
 . rename_i fs I
   split at h
   . rename_i O
     have Z:P.fieldsOf t=fs:=by unfold Program.fieldsOf;rw[I]
     rw[run_equalIn_struct w' (d+1) t _ _ (by rw[Z];exact I) O.1,Z];simpa using tU fs.toList l xs F 0 J vs [] [] b d h he hx hy rfl rfl w'
   . simp at h
 . rename_i n e I
   split at h
   . rename_i O
     cases X:tY P e with
     | none=>simp[X]at h
     | some c=>
       simp[X]at h;subst h;cases hi:P.info? e with
       | none=>simp[hi]at O
       | some i=>
         have Y:i.size=1:=by simpa[hi]using O.1
         have E:=Bv (P:=P) (S:=S) (w:=w) X (by simp[hi]) (d:=d) n 0 xs F J vs [] [] b he hx hy rfl rfl w';simp only[List.nil_append]at E;rw[Op.equalIn];simp only[Sem.run_bind,run_underlying I,Result.andThen_ok,sizeOf,typeInfo,run_program,hi,Sem.run_pure,Y];rw[Std.Legacy.Range.forIn_eq_forIn_range'];simp only[Std.Legacy.Range.size,Nat.sub_zero,Nat.add_one_sub_one,Nat.div_one];have e:∀(r:Result (Option Bool×Unit)) (f g:Option Bool×Unit->World->Result Bool),(∀a w,f a w=g a w)->r.andThen f=r.andThen g:=fun r f g h=>by cases r <;> simp[Result.andThen,h]
         exact(e _ _ _ (fun a w=>by rcases a with⟨a,_⟩;cases a <;> rfl)).trans E
   . simp at h
 . simp at h
theorem jV(op:BinOp)(t:TypeId)(x y:Operand)(a b:Value)(h1:a≠.nilIface)(E:∀cs,a≠.agg cs)(w':World):(eqGuard op t x y a b).run P w'=.ok () w':=by
 cases op <;> simp only[eqGuard] <;> (try rfl) <;> cases a <;> first|rfl|(exact absurd rfl h1)|(exact absurd rfl (E _))
theorem RB{t:TypeId}{l:List Nat}(h:xP P t=some l):P.eqGuardType P.depth t=false:=by
 unfold xP at h;split at h
 . split at h
   . rename_i E;exact E.2
   . simp at h
 . split at h
   . rename_i E;exact E.2
   . simp at h
 . simp at h
theorem RJ{op:BinOp}{t:TypeId}{x y:AV}(h:gV P G op t x y K):
   ∃z,K z/\(gt G->∀u v,rep S w x u->rep S w y v->∀I F,wC P S H w z (do eqGuard op t I F u v;binOp op t u v)):=by
 unfold gV at h;split at h
 . rename_i k a k' b
   split at h
   . rename_i aa
     refine⟨_,h.2,fun X u v O J I F=>?_⟩;have Y:=h.1 X;simp only[rep]at O J;subst O J;refine iZ lY fun w'=>?_
     simp only[Sem.run_bind,jV op t I F (.int k a) (.int k' b) (by simp) (by simp) w',Result.andThen_ok];have ab:¬b<0:=by omega
     cases op <;> simp only[wH,Bool.false_eq_true]at aa <;> simp[binOp,Op.shift,ab,shV]
   split at h
   . rename_i hk
     subst hk;have E:∀(z:Value),(∀w',(binOp op t (.int k a) (.int k b)).run P w'=.ok z w')->∀u v,rep S w (.v (.int k a)) u->rep S w (.v (.int k b)) v->∀I F,wC P S H w (.v z) (do eqGuard op t I F u v;binOp op t u v):=by
       intro z hz u v O J I F;simp only[rep]at O J;subst O J;refine iZ lY fun w'=>?_
       simp only[Sem.run_bind,jV op t I F (.int k a) (.int k b) (by simp) (by simp) w',Result.andThen_ok,hz]
     cases op <;> simp only at h <;> first
       | exact h.elim
       | (refine ⟨_, h, fun _ => E _ (fun w' => ?_)⟩
          first
            | (simp[binOp,Op.intArith,Op.intCmp];done)
            | (simp[binOp];rfl))
       | exact⟨_,h.2,fun X=>E _ (fun w'=>by simp[binOp,Op.intDiv,h.1 X])⟩
   . exact h.elim
 . rename_i a b
   have E:∀(z:Value),(∀w',(binOp op t (.string a) (.string b)).run P w'=.ok z w')->∀u v,rep S w (.v (.string a)) u->rep S w (.v (.string b)) v->∀I F,wC P S H w (.v z) (do eqGuard op t I F u v;binOp op t u v):=by
     intro z hz u v O J I F;simp only[rep]at O J;subst O J;refine iZ lY fun w'=>?_
     simp only[Sem.run_bind,jV op t I F (.string a) (.string b) (by simp) (by simp) w',Result.andThen_ok,hz]
   cases op <;> simp only at h <;> first
     | exact h.elim
     | exact⟨_,h,fun _=>E _ (fun w'=>by simp[binOp,Op.stringOp])⟩
     | exact ⟨_, h.2, fun X => E _ (fun w' => by
         have:=h.1 X;have h2:¬((a.size+b.size:Nat):Int)>IntKind.i64.max:=by omega
         simp only[binOp,Op.stringOp];rw[if_neg h2];rfl)⟩
 . rename_i a b
   split at h
   . rename_i Y
     have ad:=PI Y;cases op <;> simp only at h <;> first
       | exact h.elim
       | (refine ⟨_, h, fun _ u v O J I F => ?_⟩
          simp only[rep]at O J;subst O J;refine iZ lY fun w'=>?_
          simp only[Sem.run_bind,jV _ t I F (.bool a) (.bool b) (by simp) (by simp) w',Result.andThen_ok];simp[binOp,run_equal_bool w' t a b ad])
   . exact h.elim
 . rename_i xs ys
   split at h
   . rename_i l hl
     split at h
     . rename_i b Y
       cases op <;> simp only at h <;> first
         | exact h.elim
         | (refine ⟨_, h, fun _ u v O J I F => ?_⟩
            simp only[rep]at O J;obtain⟨us,rfl,ac,_⟩:=O;obtain⟨vs,rfl,Z,_⟩:=J;refine iZ lY fun w'=>?_
            have q:=CZ hl Y ac Z 9998 w';simp only[Sem.run_bind,run_eqGuard_agg _ _ _ _ _ _ _ (RB hl),Result.andThen_ok]
            first
              | (rw[run_eql_struct,q];rfl)
              | (rw[run_neq_struct,q];rfl))
     . exact h.elim
   . exact h.elim
 . exact⟨_,h.2,fun X=>(h.1 X).elim⟩
end
end Go.Aw
end
section
namespace Go.Aw
open Go.RowKit
section
variable{P:Program}{S:Sg}{H:aJ}{w:World}{G:Option Bool}{K:AV->Prop}
theorem jJ{n:Nat}:∀{l:List (List AV)},cZ n l↔∀cs∈l,cs.length=n
 | []=>by simp[cZ]
 | x::r=>by simp[cZ,jJ (l:=r)]
theorem AY{α:Type}{n:Nat}{f:α->List AV}(h:∀x,(f x).length=n)(l:List α):cZ n (l.map f):=jJ.2 fun cs E=>by
 obtain⟨x,_,rfl⟩:=List.mem_map.1 E;exact h x
theorem ZS{b:Bool}{u:Value}(h:rep S w (.v (.bool b)) u):u=.bool b:=by simpa only[rep]using h
theorem tG{c:Bool}{x y:AV}{u v:Value}(E:c=true->rep S w x u)(F:c=false->rep S w y v):rep S w (vK c x y) (if c then u else v):=by
 unfold vK;split
 . cases c
   . have:=F rfl;simp only[rep]at this |-;subst this;simp
   . have:=E rfl;simp only[rep]at this |-;subst this;simp
 . cases c
   . have:=F rfl;simp only[rep]at this |-;subst this;simp
   . have:=E rfl;simp only[rep]at this |-;subst this;simp
 . cases c
   . have:=F rfl;simp only[rep]at this |-;subst this;simp
   . have:=E rfl;simp only[rep]at this |-;subst this;simp
 . cases c
   . simpa using F rfl
   . simpa using E rfl
theorem OV{c:Bool}{x y:AV}(h:Az G c x y K):
   ∃z,K z/\(gt G->∀u v,rep S w x u->rep S w y v->rep S w z (if c then u else v)):=by
 unfold Az at h;split at h
 . refine⟨_,h.2.2,fun J u v F E=>tG (fun I=>?_) (fun I=>?_)⟩
   . simp only[rep]at F;exact F.1 (h.1 J I)
   . simp only[rep]at E;exact E.1 (h.2.1 J I)
 . refine⟨_,h.2,fun J u v F E=>tG (fun I=>?_) (fun _=>E)⟩
   simp only[rep]at F;exact F.1 (h.1 J I)
 . refine⟨_,h.2,fun J u v F E=>tG (fun _=>F) (fun I=>?_)⟩
   simp only[rep]at E;exact E.1 (h.1 J I)
 . exact⟨_,h,fun _ u v F E=>tG (fun _=>F) (fun _=>E)⟩
theorem GV{v:Value}(h:v.oneCell'=true):v.cells=#[v]:=by
 cases v <;> first|rfl|simp[Value.oneCell']at h
theorem xE{x:AV}{K:List AV->Prop}(h:mV x K):∃cs,K cs/\∀u,rep S w x u->∃l:List Value,u.cells=l.toArray/\bC S w cs l/\(∀v∈l,v.oneCell'=true):=by
 have F:∀(x:AV) (u:Value),rep S w x u->u.oneCell'=true->∃l:List Value,u.cells=l.toArray/\bC S w [x] l/\(∀v∈l,v.oneCell'=true):=fun x u E h1=>
   ⟨[u],GV h1,by simp only[bC];exact⟨u,[],rfl,E,rfl⟩,by simpa using h1⟩
 unfold mV at h;split at h
 . refine⟨_,h,fun u E=>?_⟩
   simp only[rep]at E;obtain⟨l,rfl,h1,I⟩:=E;exact⟨l,rfl,h1,I⟩
 . refine⟨_,h.2,fun u E=>F _ u E ?_⟩
   simp only[rep]at E;subst E;exact h.1
 . refine⟨_,h,fun u E=>F _ u E ?_⟩
   simp only[rep]at E;obtain⟨_,_,_,rfl,_⟩:=E;rfl
 . refine⟨_,h,fun u E=>F _ u E ?_⟩
   simp only[rep]at E;obtain⟨_,_,rfl,_⟩:=E;rfl
 . refine⟨_,h,fun u E=>F _ u E ?_⟩
   simp only[rep]at E;obtain⟨_,_,_,_,_,rfl⟩:=E;rfl
 . refine⟨_,h,fun u E=>F _ u E ?_⟩
   simp only[rep]at E;obtain⟨_,_,_,_,_,rfl⟩:=E;rfl
 . exact h.elim
theorem Dn(v:Value):rep S w (qV v) v:=by
 unfold qV;split
 . unfold rep
   exact⟨none,0,0,rfl,rfl,Nat.le_refl _,Nat.zero_le _,.inl rfl⟩
 . exact lY
theorem mK:∀(l:List Value),bC S w (l.map qV) l
 | []=>by simp[bC]
 | v::r=>by simp only[List.map_cons,bC];exact⟨v,r,rfl,Dn v,mK r⟩
theorem Dg:∀(l:List Value) (i:Nat) (A:Array Value) (o:Nat),o+i+l.length<=A.size ->
   ((l.zipIdx i).foldl (fun cs (p:Value×Nat)=>cs.setIfInBounds (o+p.2) p.1) A).toList=A.toList.take (o+i)++l++A.toList.drop (o+i+l.length)
 | [],i,A,o,h=>by simp
 | v::r,i,A,o,h=>by
   simp only[List.zipIdx_cons,List.foldl_cons,List.length_cons]at h |-;rw[Dg r (i+1) _ o (by simp;omega)];have I:(A.setIfInBounds (o+i) v).toList=A.toList.set (o+i) v:=by simp
   rw[I,show o+(i+1)=o+i+1 by omega,List.take_set,List.drop_set_of_lt (by omega)];have E:o+i<A.toList.length:=by simp;omega
   have F:(List.take (o+i+1) A.toList).set (o+i) v=List.take (o+i) A.toList++[v]:=by
     rw[List.take_succ_eq_append_getElem E,List.set_append_right _ _ (by simp;omega)];have:(List.take (o+i) A.toList).length=o+i:=by rw[List.length_take];omega
     rw[this,Nat.sub_self];rfl
   rw[F];simp only[List.append_assoc,List.singleton_append,List.cons_append,List.nil_append];rw[show o+i+1+r.length=o+i+(r.length+1)by omega]
theorem zC{places:List (Nat×Nat)}{place:Nat->Option (Nat×Nat)}(X:∀i on,places[i]?=some on->place i=some on):∀(E:List (Nat×List AV)) (vs:List (Nat×Value)) (cs:List AV) (A:Array Value) (cs':List AV),
   rJ places cs E=some cs'->bC S w cs A.toList->(∀v∈A.toList,v.oneCell'=true) ->
   E.length=vs.length->(∀(j i:Nat) (c:List AV),E[j]?=some (i,c)->∃(v:Value) (l:List Value),vs[j]?=some (i,v)/\v.cells=List.toArray l/\bC S w c l/\∀u∈l,u.oneCell'=true) ->
   ∃A',Instr.fill place A vs=some A'/\bC S w cs' A'.toList/\(∀v∈A'.toList,v.oneCell'=true)
 | [],vs,cs,A,cs',F,hr,h1,hl,_=>by
   simp only[rJ]at F;injection F with F;subst F;have:vs=[]:=List.eq_nil_of_length_eq_zero (by simpa using hl.symm);subst this;exact⟨A,rfl,hr,h1⟩
 | (i,c)::rest,vs,cs,A,cs',F,hr,h1,hl,hv=>by
   obtain⟨v,l,e1,e2,e3,e4⟩:=hv 0 i c (by simp);cases vs with
   | nil=>simp at e1
   | cons q vs=>
     simp at e1;subst e1;simp only[rJ]at F;cases hp:places[i]? with
     | none=>simp[hp]at F
     | some on=>
       obtain⟨off,n⟩:=on;simp only[hp]at F;split at F
       . rename_i hc
         have O:l.length=n:=by rw[<-hc.1];exact iD _ _ e3
         have hA:A.toList.length=cs.length:=iD _ _ hr;have Y:A.size=cs.length:=by simpa using hA
         have hz:=Dg l 0 A off (by rw[O,Y];have:=hc.2;omega);simp only[Nat.add_zero]at hz;have I:bC S w (cs.take off++c++cs.drop (off+n)) (A.toList.take off++l++A.toList.drop (off+l.length)):=by
           rw[O];exact dJ _ _ _ _ (dJ _ _ _ _ (sC _ _ _ hr) e3) (vO _ _ _ hr)
         have Z:∀u∈A.toList.take off++l++A.toList.drop (off+l.length),u.oneCell'=true:=by
           intro u J;simp only[List.mem_append]at J;rcases J with(J|J)|J
           . exact h1 u (List.mem_of_mem_take J)
           . exact e4 u J
           . exact h1 u (List.mem_of_mem_drop J)
         rw[<-hz]at I Z;obtain⟨A',f1,f2,f3⟩:=zC X rest vs _ _ cs' F I Z (by simpa using hl) (fun j i c hj=>by simpa using hv (j+1) i c (by simpa using hj));refine⟨A',?_,f2,f3⟩;simp only[Instr.fill,X i _ hp,e2,List.size_toArray,O];rw[if_neg (by have:=hc.2;simp[Y];omega)];rw[<-f1]
         congr 1
         rw[<-Array.foldl_toList];simp
       . simp at F
theorem nS{t:TypeId}{z:List AV}(h:dR P t=some z):∃i v,P.info? t=some i/\i.zero=some v/\z=v.cells.toList.map qV/\v.cells.size=i.size/\i.size≠0/\(∀u∈v.cells.toList,u.oneCell'=true):=by
 unfold dR at h;cases hi:P.info? t with
 | none=>simp[hi]at h
 | some i=>
   cases F:i.zero with
   | none=>simp[hi,F]at h
   | some v=>
     simp only[hi,F]at h;split at h
     . rename_i E
       injection h with h;exact⟨i,v,rfl,F,h.symm,E.1,E.2.1,fun u I=>List.all_eq_true.1 E.2.2 u I⟩
     . simp at h
theorem aU{x:AV}{k:AV->Prop}(h:bR G x k):∃y,k y/\(gt G->∀u,rep S w x u->rep S w y u):=by
 unfold bR at h;split at h
 . refine⟨_,h.2,fun F u E=>?_⟩
   simp only[rep]at E;refine E.1 ?_;have:=h.1;cases G with
   | none=>exact this
   | some b=>exact this F
 . exact⟨_,h,fun _ u E=>E⟩
theorem Vi{op:UnOp}{x:AV}(h:aun op x K):∃z,K z/\∀u,rep S w x u->wC P S H w z (Op.unary op u):=by
 unfold aun at h;split at h
 . refine⟨_,h,fun u E=>?_⟩
   simp only[rep]at E;subst E;exact iZ lY fun w'=>by simp[Op.unary]
 . refine⟨_,h,fun u E=>?_⟩
   simp only[rep]at E;subst E;exact iZ lY fun w'=>by simp[Op.unary,Op.intArith]
 . exact h.elim
theorem IK{t:TypeId}{k:IntKind}(h:GD P t=some k):P.underlying t=some (.int k):=by
 unfold GD at h;split at h
 . rename_i E;injection h with h;subst h;exact E
 . simp at h
theorem Np{t:TypeId}(h:CU P t=true):∃e,P.underlying t=some (.slice e)/\P.underlying e=some (.int .u8):=by
 unfold CU at h;split at h
 . rename_i e E
   split at h
   . rename_i F;exact⟨e,E,F⟩
   . simp at h
 . simp at h
theorem Ff:∀(es:List (List AV)) (ns:List Int) (o:Nat) {b sz:Nat},rF es=some ns->iG S w b sz o es->0<sz->ns.length=es.length/\∀j n,ns[j]?=some n->w.cell? ⟨b,o+j,none⟩=some (.int .u8 n)
 | [],ns,o,b,sz,h,_,_=>by
   simp only[rF]at h;injection h with h;subst h;simp
 | es::r,ns,o,b,sz,h,he,hs=>by
   unfold rF at h;split at h
   . rename_i e;simp at e
   . rename_i n r' e
     injection e with O X;subst O X;cases I:rF r with
     | none=>simp[I]at h
     | some ns'=>
       simp[I]at h;subst h;simp only[iG,cU]at he;obtain⟨h1,⟨⟨u,Z,_,J⟩,_⟩,h4⟩:=he;simp only[rep]at J;subst J;have F:sz=1:=by simpa using h1.symm
       subst F;obtain⟨i1,Y⟩:=Ff r ns' (o+1) I h4 hs;refine⟨by simp[i1],fun j m E=>?_⟩;cases j with
       | zero=>simp at E;subst E;simpa using Z
       | succ j=>
         rw[show o+(j+1)=o+1+j by omega];exact Y j m (by simpa using E)
   . simp at h
theorem Nl{src dst:TypeId}{x:AV}(h:xM P src dst x K):∃z,K z/\∀u,rep S w x u->wC P S H w z (convert src dst u):=by
 unfold xM at h;split at h
 . split at h
   . rename_i k k' hk aa
     refine⟨_,h,fun u I=>?_⟩;simp only[rep]at I;subst I;refine iZ lY fun w'=>?_
     simp[convert,run_underlying (IK hk),run_underlying (IK aa),Conv.intToInt]
   . exact h.elim
 . split at h
   . rename_i X
     refine⟨_,h,fun u I=>?_⟩;simp only[rep]at I;subst I;refine iZ lY fun w'=>?_
     simp[convert,run_underlying (gD X.1),run_underlying (gD X.2)]
   . exact h.elim
 . rename_i es
   split at h
   . rename_i X
     split at h
     . rename_i O J
       refine⟨_,h,fun u I=>?_⟩;obtain⟨e,he,Z⟩:=Np X.1;have hd:=gD X.2;simp only[rep]at I;obtain⟨ad,n,c,rfl,h1,_,_,E⟩:=I;refine⟨_,lY,fun w' ha=>?_⟩;have empty:es=[]->O=[]:=fun e=>by subst e;simp[rF]at J;exact J
       cases ad with
       | none=>
         have:es=[]:=by rcases E with E|⟨b,o,sz,E,_⟩;exact E;simp at E
         rw[run_convert_bytes_nil w' src e he Z n c dst hd,empty this];rfl
       | some a=>
         have F:(loadCells a n).run P w'=.ok (O.map (Value.int .u8)).toArray w':=by
           rcases E with E|⟨b,o,sz,E,hb,ab,Y⟩
           . have hn:n=0:=by rw[<-h1,E];rfl
             rw[hn,empty E];simp[loadCells,loadCellsFrom]
           . injection E with E
             subst E;obtain⟨i1,i2⟩:=Ff es O o J Y ab;have hn:n=(O.map (Value.int .u8)).length:=by rw[List.length_map,i1,h1]
             rw[hn];refine run_loadCells_list w' _ _ fun j v hj=>?_
             rw[Addr.add_lit];simp at hj;obtain⟨m,hm,rfl⟩:=hj;exact ha.cell hb (i2 j m hm)
         rw[run_convert_bytes_string w' src dst e _ n c he Z hd,run_bytesToString w' a n c O F,foldl_push_bytes]
         congr 3
         simp[ByteArray.empty,ByteArray.emptyWithCapacity];rfl
     . exact h.elim
   . exact h.elim
 . exact h.elim
theorem FP{t:TypeId}{e sz E:Nat}(J:bY P t=some (e,sz,E)):P.underlying t=some (.slice (P.elem t))/\∀w:World,(sizeOf (P.elem t)).run P w=.ok sz w:=by
 obtain⟨i,z,I,hi,F,_⟩:=jG J;have:P.elem t=e:=by unfold Program.elem;rw[I]
 rw[this];exact⟨I,fun w=>by simp[sizeOf,typeInfo,hi,F]⟩
theorem DJ{t:TypeId}{x a b:AV}(h:D3 P G t x a b K):
   ∃z,K z/\(gt G->∀(u I J:Value),rep S w x u->rep S w a I->rep S w b J->wC P S H w z (Instr.sliceAt t u none (some I) (some J))):=by
 unfold D3 at h;split at h
 . rename_i es ka a kb b
   split at h
   . rename_i e he
     refine⟨_,h.2,fun hg u I J Z h1 O=>?_⟩;obtain⟨e1,e2⟩:=h.1 hg;simp only[rep]at Z h1 O;subst h1 O e1 e2;obtain⟨Y,n,c,rfl,rfl,hc,hm,h4⟩:=Z;obtain⟨E,X⟩:=FP (P:=P) (t:=t) (by rw[he]);refine⟨.slice Y es.length es.length,?_,fun w' _=>?_⟩
     . simp only[rep]
       exact⟨Y,_,rfl,rfl,by omega,h4⟩
     . rw[run_sliceAt_slice w' t _ _ _ _ E]
       have F:(es.length:Int)<=(c:Int):=by exact_mod_cast hc
       rcases h4 with rfl|⟨bb,o,sz,rfl,_⟩
       . simp[Instr.slice,run_underlying E,Instr.sliceBounds,Instr.sliceBound,asIntOf,X]
       . simp[Instr.slice,run_underlying E,Instr.sliceBounds,Instr.sliceBound,asIntOf,X,F,Addr.add]
         intro aa;omega
   . exact h.elim
 . exact h.elim
theorem FJ{es:List (List AV)}{ad:Option Addr}{n c sz a b:Nat}(hu:rep S w (.sl es) (.slice ad n c))(J:cZ sz es)(ac:a<=b)(hb:b<=es.length):
   rep S w (.sl ((es.take b).drop a)) (sliced ad a b c sz):=by
 simp only[rep]at hu |-;obtain⟨ae,n',c',e,h1,h2,h3,h4⟩:=hu;injection e with Y Z e3;subst Y Z e3;refine⟨_,_,_,rfl,by simp;omega,by omega,by omega,?_⟩;by_cases E:(es.take b).drop a=[]
 . exact .inl E
 . refine .inr ?_
   rcases h4 with h4|⟨bl,o,I,rfl,X,hs,F⟩
   . subst h4;simp at E
   . have O : 0 < es.length := by
       rcases Nat.eq_zero_or_pos es.length with h0|h0
       . have:=List.eq_nil_of_length_eq_zero h0;subst this;simp at E
       . exact h0
     have aa:I=sz:=by
       have Y:=(sB es o 0 F O).1;have Z:=jJ.1 J (es.getD 0 []) (by simp only[List.getD,List.getElem?_eq_getElem O,Option.getD_some];exact List.getElem_mem O);rw[<-Y,Z]
     subst aa;have ab:a<b:=by
       rcases Nat.lt_or_ge a b with h|h
       . exact h
       . exact absurd (List.drop_eq_nil_of_le (by simp;omega)) E
     refine⟨bl,o+a*I,I,?_,X,hs,?_⟩
     . split
       . omega
       . simp[Addr.add_lit]
     . exact AX _ o a (wM es o b F)
theorem J3{t:TypeId}{x:AV}{lo hi:Option AV}(h:mX P G t x lo hi K):
   ∃z,K z/\(gt G->∀(u:Value) (vl vh:Option Value),rep S w x u->(∀y,lo=some y->∃v,vl=some v/\rep S w y v)->(lo=none->vl=none)->(∀y,hi=some y->∃v,vh=some v/\rep S w y v)->(hi=none->vh=none) ->
     wC P S H w z (Instr.sliceAt t u vl vh none)):=by
 unfold mX at h;split at h
 . rename_i es ka a kb b
   split at h
   . rename_i e sz aa he
     refine⟨_,h.2,fun J u vl vh I X _ Y _=>?_⟩;obtain⟨⟨h0,h1,h2⟩,h3⟩:=h.1 J;obtain⟨v,rfl,F⟩:=X _ rfl;obtain⟨v',rfl,O⟩:=Y _ rfl;simp only[rep]at F O;subst F O;have Z:=I;simp only[rep]at Z;obtain⟨ad,n,c,rfl,e1,e2,_⟩:=Z;obtain⟨E,hz⟩:=FP he;have:=FJ (a:=a.toNat) (b:=b.toNat) I h3 (by omega) (by omega);refine⟨_,this,fun w' _=>?_⟩;rw[run_sliceAt_slice w' t _ _ _ _ E,run_slice_lh w' t ad n c E ka kb a b h0 h1 (by omega),hz];rfl
   . exact h.elim
 . rename_i es ka a
   split at h
   . rename_i e sz aa he
     refine⟨_,h.2,fun J u vl vh I X _ _ Y=>?_⟩;obtain⟨⟨h0,h1⟩,h3⟩:=h.1 J;obtain⟨v,rfl,F⟩:=X _ rfl;have:=Y rfl;subst this;simp only[rep]at F;subst F;have Z:=I;simp only[rep]at Z;obtain⟨ad,n,c,rfl,e1,e2,_⟩:=Z;obtain⟨E,hz⟩:=FP he;have:=FJ (a:=a.toNat) (b:=es.length) I h3 (by omega) (by omega);rw[List.take_length,e1]at this;refine⟨_,this,fun w' _=>?_⟩;rw[run_sliceAt_slice w' t _ _ _ _ E,run_slice_l w' t ad n c E ka a h0 (by omega),hz];rfl
   . exact h.elim
 . rename_i es kb b
   split at h
   . rename_i e he
     refine⟨_,h.2,fun J u vl vh I _ X Y _=>?_⟩;obtain⟨h0,h1⟩:=h.1 J;obtain⟨v,rfl,F⟩:=Y _ rfl;have:=X rfl;subst this;simp only[rep]at F;subst F;obtain⟨E,hz⟩:=FP he;simp only[rep]at I;obtain⟨ad,n,c,rfl,e1,e2,e3,e4⟩:=I;refine⟨sliced ad 0 b.toNat c e.2.1,?_,fun w' _=>?_⟩
     . simp only[rep]
       refine⟨ad,b.toNat,c,?_,by simp;omega,by omega,e3,?_⟩
       . simp only[sliced,Nat.sub_zero]
         congr 1
         split
         . rfl
         . cases ad <;> simp[Addr.add_zero']
       . rcases e4 with e4|⟨bl,o,ac,rfl,ae,af,ab⟩
         . left;rw[e4];simp
         . exact .inr ⟨bl,o,ac,rfl,ae,af,wM es o _ ab⟩
     . rw[run_sliceAt_slice w' t _ _ _ _ E,run_slice_h w' t ad n c E kb b h0 (by omega),hz]
       rfl
   . exact h.elim
 . rename_i s ka a kb b
   split at h
   . rename_i E
     refine⟨_,h.2,fun J u vl vh I X _ Y _=>?_⟩;obtain⟨h0,h1,h2⟩:=h.1 J;obtain⟨v,rfl,F⟩:=X _ rfl;obtain⟨v',rfl,O⟩:=Y _ rfl;simp only[rep]at I F O;subst I F O;refine iZ lY fun w'=>?_
     rw[run_sliceAt_string w' t _ _ _ _ (gD E),run_slice_string w' t s ka kb a b (gD E) h0 h1 h2]
   . exact h.elim
 . rename_i s ka a
   split at h
   . rename_i E
     refine⟨_,h.2,fun J u vl vh I X _ _ Y=>?_⟩;obtain⟨h0,h1⟩:=h.1 J;obtain⟨v,rfl,F⟩:=X _ rfl;have:=Y rfl;subst this;simp only[rep]at I F;subst I F;refine iZ lY fun w'=>?_
     rw[run_sliceAt_string w' t _ _ _ _ (gD E),run_slice_string_l w' t s (gD E) ka a h0 h1]
   . exact h.elim
 . rename_i s kb b
   split at h
   . rename_i E
     refine⟨_,h.2,fun J u vl vh I _ X Y _=>?_⟩;obtain⟨h0,h1⟩:=h.1 J;obtain⟨v,rfl,F⟩:=Y _ rfl;have:=X rfl;subst this;simp only[rep]at I F;subst I F;refine iZ lY fun w'=>?_
     rw[run_sliceAt_string w' t _ _ _ _ (gD E),run_slice_string_h w' t s (gD E) kb b h0 h1]
   . exact h.elim
 . exact h.elim
theorem PV{k:Nat}{r:Row}(hH:xZ S w H)(hk:H k=some r){a b c:Nat}{J:Option Addr}{n:Nat}(X:S.loc k=.slice J n c)(Z:a<=b)(hb:b<=r.es.length):n=r.es.length/\n<=c/\rep S w (.oz k a b) (sliced J a b c r.sz):=by
 have hR:=hH k r hk;obtain⟨xs,ho,_,_⟩:=hR.sl X;have E:(J=none/\n=0/\c=0/\r.es.length=0)\/∃g,J=some ⟨g,0,none⟩/\n=r.es.length/\n<=c:=by
   rcases ho.2 with⟨I,Y⟩|⟨g,cap,cur,I,_,_,ab,_⟩
   . rw[X]at I
     injection I with h1 F O;exact .inl ⟨h1,F,O,Y⟩
   . rw[X]at I
     injection I with h1 F O;subst O;exact .inr ⟨g,h1,F,by omega⟩
 have Y:n=r.es.length/\n<=c:=by
   rcases E with⟨_,h1,F,O⟩|⟨g,_,h1,F⟩ <;> omega
 refine⟨Y.1,Y.2,?_⟩;simp only[rep,sliced];refine⟨hR.lt,J,n,c,_,_,X,rfl,Z,by omega,fun aa=>?_,fun ha=>?_⟩
 . rcases E with⟨_,h1,F,O⟩|⟨g,h0,h1,F⟩
   . omega
   . subst h0
     refine⟨g,rfl,?_⟩;rw[if_neg (by omega)];simp[Addr.add_lit,hR.sz]
 . subst ha
   rcases E with⟨h0,_,_,_⟩|⟨g,h0,_,_⟩
   . subst h0;simp
   . subst h0;simp[Addr.add_lit]
theorem sE{H':aJ}{t:TypeId}{x:AV}{lo hi:Option AV}(hH:xZ S w H)(h:asl P G H t x lo hi K):
   ∃z,K z/\(gt G->∀(u:Value) (O X:Option Value),rep S w x u->(∀y,lo=some y->∃v,O=some v/\rep S w y v)->(lo=none->O=none)->(∀y,hi=some y->∃v,X=some v/\rep S w y v)->(hi=none->X=none) ->
     wC P S H' w z (Instr.sliceAt t u O X none)):=by
 unfold asl at h;split at h
 . rename_i k
   split at h
   . rename_i r e sz ab hk he
     obtain⟨J,hz⟩:=FP he;split at h
     . rename_i ka a kb b
       refine⟨_,h.2,fun Y u O X I hl _ hh _=>?_⟩;obtain⟨⟨h0,h1,h2⟩,h3⟩:=h.1 Y;obtain⟨v,rfl,F⟩:=hl _ rfl;obtain⟨v',rfl,aa⟩:=hh _ rfl;simp only[rep]at F aa I;subst F aa;obtain⟨_,rfl,ad,n,c,E⟩:=I;obtain⟨q1,q2,Z⟩:=PV (a:=a.toNat) (b:=b.toNat) hH hk E (by omega) (by omega);rw[E];refine⟨_,Z,fun w' _=>?_⟩;rw[run_sliceAt_slice w' t _ _ _ _ J,run_slice_lh w' t ad n c J ka kb a b h0 h1 (by omega),hz,h3];rfl
     . rename_i ka a
       refine⟨_,h.2,fun Y u O X I hl _ _ hh=>?_⟩;obtain⟨⟨h0,h1⟩,h3⟩:=h.1 Y;obtain⟨v,rfl,F⟩:=hl _ rfl;have:=hh rfl;subst this;simp only[rep]at F I;subst F;obtain⟨_,rfl,ad,n,c,E⟩:=I;obtain⟨q1,q2,Z⟩:=PV (a:=a.toNat) (b:=r.es.length) hH hk E (by omega) (by omega);rw[E];refine⟨_,Z,fun w' _=>?_⟩;rw[run_sliceAt_slice w' t _ _ _ _ J,run_slice_l w' t ad n c J ka a h0 (by omega),hz,h3,q1];rfl
     . rename_i kb b
       refine⟨_,h.2,fun Y u O X I _ hl hh _=>?_⟩;obtain⟨⟨h0,h1⟩,h3⟩:=h.1 Y;obtain⟨v,rfl,F⟩:=hh _ rfl;have:=hl rfl;subst this;simp only[rep]at F I;subst F;obtain⟨_,rfl,ad,n,c,E⟩:=I;obtain⟨q1,q2,Z⟩:=PV (a:=0) (b:=b.toNat) hH hk E (by omega) (by omega);rw[E];refine⟨_,Z,fun w' _=>?_⟩;rw[run_sliceAt_slice w' t _ _ _ _ J,run_slice_h w' t ad n c J kb b h0 (by omega),hz,h3];rfl
     . exact h.elim
   . exact h.elim
 . exact J3 h
theorem KU{t:TypeId}{x i:AV}(h:wP P G t x i K):
   ∃z,K z/\(gt G->∀u v,rep S w x u->rep S w i v->wC P S H w z (Instr.index t u v)):=by
 unfold wP at h;split at h
 . rename_i s k n
   split at h
   . rename_i Z
     refine⟨_,h.2,fun I u v J E=>?_⟩;obtain⟨h0,h1⟩:=h.1 I;simp only[rep]at J E;subst J E;refine iZ lY fun w'=>?_
     rw[run_index_string w' t s k n (gD Z),dif_pos ⟨h0,h1⟩];have O:n.toNat<s.data.size:=by have:s.size=s.data.size:=rfl;omega
     congr 4
     rw[Array.getD,dif_pos O];rfl
   . exact h.elim
 . rename_i cs k n
   split at h
   . rename_i m s l ha
     obtain⟨e,aa,J,hi,rfl,_,hl⟩:=IW ha;obtain⟨z,hz,hd⟩:=DV (S:=S) (H:=H) (w:=w) hl h.2;refine⟨z,hz,fun I u v Y E=>?_⟩;obtain⟨h0,h1⟩:=h.1 I;obtain⟨cs',rfl,X⟩:=hd I u Y;simp only[rep]at E;subst E;obtain⟨r,hr,F⟩:=X;refine⟨r,hr,fun w' hw=>?_⟩;have:=F w' hw;simp[Instr.index,asIntOf,run_underlying J,h0,h1,sizeOf,typeInfo,hi];simpa using this
   . exact h.elim
 . exact h.elim
def opB(n:Nat):Operand->Bool
 | .tmp t=>decide (t<n)
 | _=>true
def FR(S:Sg)(w:World)(ρ:Env)(a:Act):Prop:=∀t,t<a.tmps.size->rep S w (ρ t) (a.tmps.getD t undef)
theorem cM{ρ:Env}{a:Act}(F:FR S w ρ a){x:Operand}(E:opB a.tmps.size x=true):rep S w (aev ρ x) (a.eval x):=by
 cases x with
 | tmp t=>simp only[opB,decide_eq_true_eq]at E;exact F t E
 | const v=>exact Dn v
 | global g=>trivial
 | func f=>exact lY
theorem QM{ρ:Env}{a:Act}(E:FR S w ρ a){x:Operand}(F:opB a.tmps.size x=true):rep S w (KI ρ x) (a.eval x):=by
 cases x with
 | const v=>exact lY
 | tmp t=>exact cM E F
 | global g=>exact cM E F
 | func f=>exact cM E F
theorem DP{ρ:Env}{a:Act}(E:FR S w ρ a):∀(l:List Operand),(∀x∈l,opB a.tmps.size x=true)->bC S w (l.map (KI ρ)) (l.map a.eval)
 | [],_=>rfl
 | x::l,h=>by
   simp only[List.map_cons,bC];exact⟨_,_,rfl,QM E (h x (by simp)),DP E l fun y F=>h y (by simp[F])⟩
theorem oT{ρ:Env}{a:Act}(O:FR S w ρ a):∀(l:List (Nat×Operand)) {K:List (Nat×List AV)->Prop},(∀p∈l,opB a.tmps.size p.2=true)->pZ G ρ l K ->
   ∃E,K E/\(gt G->E.length=(l.map fun p=>(p.1,a.eval p.2)).length /\
     ∀(j i:Nat) (c:List AV),E[j]?=some (i,c)->∃(v:Value) (l':List Value),(l.map fun p=>(p.1,a.eval p.2))[j]?=some (i,v)/\v.cells=List.toArray l'/\bC S w c l'/\∀u∈l',u.oneCell'=true)
 | [],K,_,h=>⟨[],h,fun _=>⟨rfl,by simp⟩⟩
 | (i,x)::rest,K,hb,h=>by
   simp only[pZ]at h;obtain⟨y,h,hy⟩:=aU (S:=S) (w:=w) h;obtain⟨cs,h,I⟩:=xE (S:=S) (w:=w) h;obtain⟨E,Z,J⟩:=oT O rest (fun p hp=>hb p (by simp[hp])) h;refine⟨_,Z,fun X=>?_⟩;obtain⟨e1,e2⟩:=J X;refine⟨by simpa using e1,fun j k c F=>?_⟩;cases j with
   | zero=>
     simp at F;obtain⟨rfl,rfl⟩:=F;obtain⟨l',f1,Y,f3⟩:=I _ (hy X _ (cM O (hb (i,x) (by simp))));exact⟨_,l',by simp,f1,Y,f3⟩
   | succ j=>simpa using e2 j k c (by simpa using F)
theorem uJ{t:TypeId}{i:TypeInfo}{O:Value}{z:List AV}{Z:List (Nat×Nat)}(hi:P.info? t=some i)(X:i.zero=some O)(h1:∀u∈O.cells.toList,u.oneCell'=true)(hr:bC S w z O.cells.toList)(I:eJ P t=some Z){E:List (Nat×List AV)}{vs:List (Nat×Value)}{cs:List AV}
   (hf:rJ Z z E=some cs) (hl:E.length=vs.length)
   (hv:∀(j i:Nat) (c:List AV),E[j]?=some (i,c)->∃(v:Value) (l:List Value),vs[j]?=some (i,v)/\v.cells=List.toArray l/\bC S w c l/\∀u∈l,u.oneCell'=true):
   ∃J,P.built t vs=some J/\bC S w cs J.toList/\∀v∈J.toList,v.oneCell'=true:=by
 unfold eJ at I;split at I
 . rename_i fs hu
   obtain⟨J,f1,Y,f3⟩:=zC (place:=fun i=>Z.toArray[i]?) (fun i on h=>by simpa using h) E vs _ O.cells cs hf hr h1 hl hv;refine⟨J,?_,Y,f3⟩;unfold Program.built;simp only[hi,hu,X,I];exact f1
 . rename_i n e hu
   cases F:P.info? e with
   | none=>simp[F]at I
   | some ie=>
     simp[F]at I;obtain⟨J,f1,Y,f3⟩:=zC (place:=fun i=>some (i*ie.size,ie.size)) (fun i on h=>by
       rw[<-I]at h;simp only[List.getElem?_map,Option.map_eq_some_iff]at h;obtain⟨j,h,rfl⟩:=h;have aa:i<n:=by
         rcases Nat.lt_or_ge i n with h'|h'
         . exact h'
         . simp[List.getElem?_eq_none,h']at h
       simp[aa]at h;rw[h]) E vs _ O.cells cs hf hr h1 hl hv
     refine⟨J,?_,Y,f3⟩;unfold Program.built;simp only[hi,hu,X,F];exact f1
 . simp at I
theorem Kw{t:TypeId}{z:List AV}{J:List (Nat×Nat)}(hz:dR P t=some z)(hp:eJ P t=some J){E:List (Nat×List AV)}{vs:List (Nat×Value)}{cs:List AV}
   (Y:rJ J z E=some cs) (O:E.length=vs.length)
   (X:∀(j i:Nat) (c:List AV),E[j]?=some (i,c)->∃(v:Value) (l:List Value),vs[j]?=some (i,v)/\v.cells=List.toArray l/\bC S w c l/\∀u∈l,u.oneCell'=true):
   ∃F,P.built t vs=some F/\bC S w cs F.toList/\∀v∈F.toList,v.oneCell'=true:=by
 obtain⟨i,Z,hi,I,rfl,aa,_,h1⟩:=nS hz;exact uJ hi I h1 (mK Z.cells.toList) hp Y O X
end
end Go.Aw
end
section
namespace Go.Aw
open Go.RowKit
section
variable{P:Program}{S:Sg}{H:aJ}{w:World}{G:Option Bool}{K:AV->Prop}
theorem WF{a b:ByteArray}(h:a.toList=b.toList):a=b:=by
 rw[ByteArray.toList_eq,ByteArray.toList_eq]at h;exact ByteArray.ext (Array.toList_inj.1 h)
theorem WB{t:TypeId}{E:TypeId×TypeId}(h:Rz P t=some E):P.underlying t=some (.map E.1 E.2):=by
 unfold Rz at h;split at h
 . rename_i k e F
   injection h with h;subst h;exact F
 . simp at h
theorem Ic{t:TypeId}{z:AV}(h:Ji P t=some z):∃v,(∀w':World,(zeroValue t).run P w'=.ok v w')/\∀S w,rep S w z v:=by
 unfold Ji at h;split at h
 . rename_i i hi
   split at h
   . rename_i cs F
     split at h
     . rename_i E
       injection h with h;subst h;refine⟨.agg cs,fun w'=>by simp[zeroValue,typeInfo,hi,F],fun S w=>?_⟩;simp only[rep];refine⟨cs.toList,by simp,mK _,fun u I=>List.all_eq_true.1 E u I⟩
     . simp at h
   . rename_i v _ F
     split at h
     . injection h with h
       subst h;exact⟨v,fun w'=>by simp[zeroValue,typeInfo,hi,F],fun S w=>Dn _⟩
     . simp at h
   . simp at h
 . simp at h
theorem Im{kt:TypeId}{x y:AV}{b:Bool}(h:xL P kt x y=some b){u v:Value}(hu:rep S w x u)(hv:rep S w y v):
   ∃d,P.underlying kt=some d/\Instr.sameNow d u v=some b/\(b=true->u=v/\∀n,Instr.sameBits (n+1) v u=true):=by
 unfold xL at h;split at h
 . rename_i a c
   simp only[rep]at hu hv;subst hu hv;split at h
   . rename_i k Y
     unfold xK at h;split at h
     . rename_i k1 a1 k2 F I J
       cases I;cases J;split at h
       . rename_i X
         subst X;rcases mC Y with⟨_,k',E⟩|⟨h0,_⟩|⟨h0,_⟩
         . injection h with h
           subst h;refine⟨_,E,by simp[Instr.sameNow],fun O=>?_⟩;have:a1=F:=by simpa using O
           subst this;exact⟨rfl,fun n=>by simp[Instr.sameBits]⟩
         . simp at h0
         . simp at h0
       . simp at h
     . rename_i a1 F I J
       cases I;cases J;rcases mC Y with⟨h0,_⟩|⟨_,E⟩|⟨h0,_⟩
       . simp at h0
       . injection h with h
         have O:(a1 == F)=b:=by rw[beq_toListBytes];exact h
         refine⟨_,E,by simp[Instr.sameNow,O],fun Z=>?_⟩;have:a1=F:=WF (by rw[Z]at h;simpa using h);subst this;exact⟨rfl,fun n=>by simp[Instr.sameBits,beq_toListBytes]⟩
       . simp at h0
     . rename_i a1 F I J
       cases I;cases J;rcases mC Y with⟨h0,_⟩|⟨h0,_⟩|⟨_,E⟩
       . simp at h0
       . simp at h0
       . injection h with h
         subst h;refine⟨_,E,by simp[Instr.sameNow],fun O=>?_⟩;have:a1=F:=by simpa using O
         subst this;exact⟨rfl,fun n=>by simp[Instr.sameBits]⟩
     . simp at h
   . simp at h
 . simp at h
theorem II{kt:TypeId}{x:AV}{u:Value}{d:TypeDesc}(Y:P.underlying kt=some d)(Z:rep S w x u):∀(es:List (List AV)) (ms:List MapEntry) (i:Nat) {oi:Option Nat},lG S w i es ms->zU (xL P kt x) es i=some oi ->
   (oi=none->Instr.findNow d u ms i=some none)/\∀j,oi=some j->∃m cs,i<=j/\ms[j-i]?=some m/\es[j-i]?=some cs/\Instr.findNow d u ms i=some (some (j,m.val))/\m.key=u/\(∀n,Instr.sameBits (n+1) m.key u=true)/\m.born=j/\bC S w cs [m.key,m.val]
 | [],ms,i,oi,he,F=>by
   simp only[lG]at he;subst he;simp only[zU]at F;injection F with F;subst F;exact⟨fun _=>rfl,fun j h=>by simp at h⟩
 | cs::r,ms,i,oi,he,F=>by
   simp only[lG]at he;obtain⟨m,t,rfl,hb,O,ht⟩:=he;unfold zU at F;have hk:rep S w (cs.getD 0 .any) m.key:=by
     cases cs with
     | nil=>simp[bC]at O
     | cons c cs=>
       simp only[bC]at O;obtain⟨_,_,e,h1,_⟩:=O;injection e with e1 e2;subst e1;simpa using h1
   split at F
   . rename_i I
     injection F with F;subst F;obtain⟨d',E,h1,X⟩:=Im I Z hk;rw[Y]at E;injection E with E;subst E;refine⟨fun h=>by simp at h,fun j J=>?_⟩;injection J with J;subst J;exact⟨m,cs,Nat.le_refl _,by simp,by simp,by simp[Instr.findNow,h1],(X rfl).1.symm,(X rfl).2,hb,O⟩
   . rename_i I
     obtain⟨d',E,h1,X⟩:=Im I Z hk;rw[Y]at E;injection E with E;subst E;obtain⟨g1,g2⟩:=II Y Z r t (i+1) ht F;refine⟨fun h=>by simp[Instr.findNow,h1,g1 h],fun j J=>?_⟩;obtain⟨m',cs',q1,q2,q3,q4,q5⟩:=g2 j J;have e:j-i=(j-(i+1))+1:=by omega
     exact⟨m',cs',by omega,by rw[e];simpa using q2,by rw[e];simpa using q3,by simp[Instr.findNow,h1,q4],q5⟩
   . simp at F
theorem yO:∀(i:Nat) (es:List (List AV)) (ms:List MapEntry),lG S w i es ms->ms.length=es.length
 | _,[],ms,h=>by simp only[lG]at h;simp[h]
 | i,cs::r,ms,h=>by
   simp only[lG]at h;obtain⟨m,t,rfl,_,_,E⟩:=h;simp[yO (i+1) r t E]
theorem Pi:∀(i:Nat) (es:List (List AV)) (ms:List MapEntry) (j:Nat),lG S w i es ms->j<es.length->∃m,ms[j]?=some m/\m.born=i+j/\bC S w (es.getD j []) [m.key,m.val]
 | _,[],_,_,_,h=>by simp at h
 | i,cs::r,ms,0,h,_=>by
   simp only[lG]at h;obtain⟨m,t,rfl,h1,O,_⟩:=h;exact⟨m,by simp,by simpa using h1,by simpa using O⟩
 | i,cs::r,ms,j+1,h,hj=>by
   simp only[lG]at h;obtain⟨m,t,rfl,_,_,J⟩:=h;obtain⟨F,I,X,E⟩:=Pi (i+1) r t j J (by simpa using hj);exact⟨F,by simpa using I,by omega,by simpa using E⟩
theorem B6:∀(i:Nat) (es:List (List AV)) (ms:List MapEntry) (j:Nat) {cs:List AV} {m:MapEntry},lG S w i es ms->m.born=i+j->bC S w cs [m.key,m.val]->lG S w i (es.set j cs) (ms.set j m)
 | _,[],ms,_,_,_,h,_,_=>by simp only[lG]at h;subst h;simp[lG]
 | i,c::r,ms,0,cs,m,h,hb,hr=>by
   simp only[lG]at h;obtain⟨F,t,rfl,_,_,E⟩:=h;simp only[List.set_cons_zero,lG];exact⟨m,t,rfl,by simpa using hb,hr,E⟩
 | i,c::r,ms,j+1,cs,m,h,hb,hr=>by
   simp only[lG]at h;obtain⟨F,t,rfl,h1,I,E⟩:=h;simp only[List.set_cons_succ,lG];exact⟨F,t.set j m,rfl,h1,I,B6 (i+1) r t j E (by omega) hr⟩
theorem BQ:∀(i:Nat) (es:List (List AV)) (ms:List MapEntry) {cs:List AV} {m:MapEntry},lG S w i es ms->m.born=i+es.length->bC S w cs [m.key,m.val]->lG S w i (es++[cs]) (ms++[m])
 | i,[],ms,cs,m,h,hb,hr=>by
   simp only[lG]at h;subst h;simp only[List.nil_append,lG];exact⟨m,[],rfl,by simpa using hb,hr,rfl⟩
 | i,c::r,ms,cs,m,h,hb,hr=>by
   simp only[lG]at h;obtain⟨F,t,rfl,h1,E,I⟩:=h;simp only[List.cons_append,lG];exact⟨F,t++[m],rfl,h1,E,BQ (i+1) r t I (by simp at hb;omega) hr⟩
theorem zW{E:TypeId}{x:AV}(h:qU P E x=true){u:Value}(F:rep S w x u)(e:Bool)(n:Nat)(w':World):(∃d,P.underlying E=some d)/\(Instr.checkKey e (n+1) E u).run P w'=.ok () w':=by
 unfold qU at h;split at h
 all_goals first|(simp at h;done)|skip
 all_goals
   simp only[beq_iff_eq]at h;simp only[rep]at F;subst F;rcases mC h with⟨h0,k',hk'⟩|⟨h0,hk'⟩|⟨h0,hk'⟩ <;> first
     | (simp at h0;done)
     | exact⟨⟨_,hk'⟩,by unfold Instr.checkKey;simp only[Sem.run_bind,run_underlying hk',Result.andThen];rfl⟩
theorem Nd{t:TypeId}{F:TypeId×TypeId}{x:AV}{r:Row}{k:Nat}{u:Value}{I:Option Nat}(ht:Rz P t=some F)(X:qU P F.1 x=true)(hf:zU (xL P F.1 x) r.es 0=some I)(hm:aaC S w k r)(O:rep S w x u):
   ∃g E,S.loc k=.map (some g)/\w.heap[g]?=some (.map (List.toArray E) E.length)/\lG S w 0 r.es E/\P.underlying t=some (.map F.1 F.2)/\(∀e (w':World),(Instr.checkKey e 10000 F.1 u).run P w'=.ok () w') /\
     ((I=none/\∀w':World,(Instr.findKey F.1 u E).run P w'=.ok none w') \/
     ∃j m cs,I=some j/\E[j]?=some m/\r.es[j]?=some cs/\(∀w':World,(Instr.findKey F.1 u E).run P w'=.ok (some (j,m.val)) w')/\m.key=u/\(∀n,Instr.sameBits (n+1) m.key u=true)/\m.born=j/\bC S w cs [m.key,m.val]):=by
 obtain⟨g,E,h1,h2,Y,_⟩:=hm;obtain⟨⟨d,J⟩,_⟩:=zW X O true 0 w;refine⟨g,E,h1,h2,Y,WB ht,fun e w'=>(zW X O e 9999 w').2,?_⟩;obtain⟨f1,Z⟩:=II J O r.es E 0 Y hf;cases I with
 | none=>exact .inl ⟨rfl,fun w'=>by simp[Instr.findKey,run_underlying J,f1 rfl]⟩
 | some j=>
   obtain⟨m,cs,_,q2,q3,q4,q5,q6,q7,q8⟩:=Z j rfl;exact .inr ⟨j,m,cs,rfl,by simpa using q2,by simpa using q3,fun w'=>by simp[Instr.findKey,run_underlying J,q4],q5,q6,q7,q8⟩
theorem Gr{cs:List AV}{a b:Value}(h:bC S w cs [a,b]):∃x y,cs=[x,y]/\rep S w x a/\rep S w y b:=by
 cases cs with
 | nil=>simp[bC]at h
 | cons x cs=>
   simp only[bC]at h;obtain⟨u,t,e,h1,I⟩:=h;injection e with E F;subst E F;cases cs with
   | nil=>simp[bC]at I
   | cons y cs=>
     simp only[bC]at I;obtain⟨u,t,e,O,J⟩:=I;injection e with E F;subst E F;cases cs with
     | nil=>exact⟨x,y,rfl,h1,O⟩
     | cons _ _=>simp[bC]at J
theorem GU{t:TypeId}{x O:AV}{ok:Bool}(hH:xZ S w H)(h:tI P H t x O ok K):
   ∃z,K z/\(gt G->∀u v,rep S w x u->rep S w O v->wC P S H w z (Instr.lookup t u v ok)):=by
 unfold tI DB at h;split at h
 . rename_i j
   split at h
   . rename_i r kt hj ht
     split at h
     . rename_i oi hf
       obtain⟨hp,h⟩:=h;split at h
       . rename_i z hz
         refine⟨_,h,fun _ u v hu hv=>?_⟩;simp only[rep]at hu;obtain⟨_,rfl,g0,aa⟩:=hu;obtain⟨g,ms,h1,h2,h3,Y,Z,X⟩:=Nd ht hp hf ((hH j r hj).mp aa) hv;obtain⟨zv,I,J⟩:=Ic hz;have E:∀w',Agree S H w w'->w'.heap[g]?=some (.map (List.toArray ms) ms.length):=fun w' F=>(F.own j r hj g (by rw[h1];rfl)).trans h2
         rcases X with⟨rfl,X⟩|⟨i,m,cs,rfl,q1,q2,q3,q4,q5,q6,q7⟩
         . cases ok with
           | false=>
             refine⟨zv,J S w,fun w' F=>?_⟩;simp[Instr.lookup,run_underlying Y,h1,MapKept.run_getObj_map (E w' F),Z,X,I,KA]
           | true=>
             refine⟨.tuple #[zv,.bool false],?_,fun w' F=>?_⟩
             . simp only[KA,if_true,rep,bC]
               exact⟨[zv,.bool false],by simp,_,_,rfl,J S w,_,_,rfl,rfl,rfl⟩
             . simp[Instr.lookup,run_underlying Y,h1,MapKept.run_getObj_map (E w' F),Z,X,I,KA]
         . obtain⟨xk,xv,rfl,r1,r2⟩:=Gr q7
           have e1:(r.es.getD i []).getD 1 .any=xv:=by simp[List.getD,q2]
           cases ok with
           | false=>
             refine⟨m.val,by simp only[KA,e1];exact r2,fun w' F=>?_⟩;simp[Instr.lookup,run_underlying Y,h1,MapKept.run_getObj_map (E w' F),Z,q3]
           | true=>
             refine⟨.tuple #[m.val,.bool true],?_,fun w' F=>?_⟩
             . simp only[KA,if_true,e1,rep,bC]
               exact⟨[m.val,.bool true],by simp,_,_,rfl,r2,_,_,rfl,rfl,rfl⟩
             . simp[Instr.lookup,run_underlying Y,h1,MapKept.run_getObj_map (E w' F),Z,q3]
       . exact h.elim
     . exact h.elim
   . exact h.elim
 . exact h.elim
end
end Go.Aw
end
section
namespace Go.Aw
open Go.RowKit
section
variable{P:Program}{S:Sg}{H:aJ}{w:World}{G:Option Bool}{K:AV->Prop}
theorem Ar{s:Sem Value}{v:Value}{w':World}(h:s.run P w'=.ok v w'):(do pure (Next.value (<-s)):Sem Next).run P w'=.ok (.value v) w':=by
 simp[h]
def mT(P:Program)(S:Sg)(H:aJ)(w:World)(a:Act)(op:Op)(z:AV):Prop:=
 ∃v,rep S w z v/\∀w',Agree S H w w'->∀o:Oper,o.op=op->(execOp a.eval o).run P w'=.ok (.value v) w'
theorem mT.of_does{a:Act}{op:Op}{z:AV}{s:Sem Value}(E:wC P S H w z s)(I:∀o:Oper,o.op=op->execOp a.eval o=(do pure (Next.value (<-s)):Sem Next)):mT P S H w a op z:=by
 obtain⟨v,F,X⟩:=E;exact⟨v,F,fun w' O o J=>by rw[I o J];exact Ar (X w' O)⟩
theorem nY{G:Option Bool}{ρ:Env}{a:Act}(I:FR S w ρ a):∀(l:List Operand) {K:List AV->Prop},(∀x∈l,opB a.tmps.size x=true)->AM G ρ l K ->
   ∃E,K E/\(gt G->bC S w E (l.map a.eval))
 | [],K,_,h=>⟨[],h,fun _=>by simp[bC]⟩
 | x::rest,K,hb,h=>by
   simp only[AM]at h;obtain⟨y,h,Y⟩:=aU (S:=S) (w:=w) h;obtain⟨E,X,F⟩:=nY I rest (fun x O=>hb x (by simp[O])) h;refine⟨_,X,fun J=>?_⟩;simp only[List.map_cons,bC];exact⟨_,_,rfl,Y J _ (cM I (hb x (by simp))),F J⟩
theorem DI{ρ:Env}{a:Act}{op:Op}(hb:∀x∈op.operands,opB a.tmps.size x=true)(hF:FR S w ρ a)(hH:xZ S w H)(h:iA P G ρ H op K):
   ∃z,K z/\(gt G->mT P S H w a op z):=by
 have ev:=fun x O=>cM hF (hb x O)
 cases op <;> simp only[iA]at h <;> simp only[Op.operands]at ev hb <;> try exact h.elim
 case move x=>
   obtain⟨z,I,X⟩:=aU (S:=S) (w:=w) h;exact⟨z,I,fun E=>⟨_,X E _ (ev x (by simp)),fun w' _ o F=>by simp[execOp,F]⟩⟩
 case assign x=>
   obtain⟨z,I,X⟩:=aU (S:=S) (w:=w) h;exact⟨z,I,fun E=>⟨_,X E _ (ev x (by simp)),fun w' _ o F=>by simp[execOp,F]⟩⟩
 case pick c x y=>
   obtain⟨zc,h,hc⟩:=aU (S:=S) (w:=w) h;split at h
   . rename_i b
     obtain⟨z,I,X⟩:=OV (S:=S) (w:=w) h;refine⟨z,I,fun E=>?_⟩;have e:=ZS (hc E _ (ev c (by simp)));refine⟨_,X E _ _ (ev x (by simp)) (ev y (by simp)),fun w' _ o F=>?_⟩;simp[execOp,F,e,asBool]
   . exact h.elim
 case build t parts=>
   obtain⟨ps,h,af⟩:=oT hF parts.toList (fun p hp=>hb p.2 (by simpa using⟨p.1,by simpa using hp⟩)) h;unfold vY at h;split at h
   . rename_i z pl I ag
     split at h
     . rename_i cs ai
       refine⟨_,h,fun E=>?_⟩;obtain⟨e1,e2⟩:=af E;obtain⟨A',f1,f2,f3⟩:=Kw (S:=S) (w:=w) I ag ai e1 e2;refine⟨.agg A',by simp only[rep];exact⟨A'.toList,by simp,f2,f3⟩,fun w' _ o F=>?_⟩;have:(parts.map fun(p:Nat×Operand)=>(p.1,a.eval p.2)).toList=parts.toList.map fun p=>(p.1,a.eval p.2):=by simp
       rw[<-this]at f1;simp only[execOp,F];exact Ar (run_build w' t _ A' f1)
     . exact h.elim
   . exact h.elim
 case load t x=>
   split at h
   . rename_i l hl
     obtain⟨y,h,X⟩:=aU (S:=S) (w:=w) h;obtain⟨z,I,Y⟩:=DD hl hH h;exact⟨z,I,fun E=>mT.of_does (Y E _ (X E _ (ev x (by simp)))) (fun o F=>by simp[execOp,F])⟩
   . exact h.elim
 case nilCheck x=>
   obtain⟨y,h,X⟩:=aU (S:=S) (w:=w) h;split at h
   . refine⟨_,h,fun E=>?_⟩
     have e:=X E _ (ev x (by simp));refine⟨_,e,fun w' _ o F=>?_⟩;simp only[rep]at e;obtain⟨b,p,e,_⟩:=e;simp[execOp,F,e]
   . refine⟨_,h,fun E=>?_⟩
     have e:=X E _ (ev x (by simp));refine⟨_,e,fun w' _ o F=>?_⟩;simp only[rep]at e;obtain⟨_,b,p,c,_,e⟩:=e;simp[execOp,F,e]
   . exact h.elim
 case binOp op t x y t'=>
   split at h
   . rename_i ab
     have X:y=.const (.slice none 0 0):=by
       unfold sY at ab;split at ab
       . rfl
       . simp at ab
     subst X;obtain⟨x',h,O⟩:=aU (S:=S) (w:=w) h;obtain⟨al,h⟩:=h;obtain⟨e,ak⟩:=zT al;have J:∀(b:Bool) (ad:Option Addr) (n c:Nat),a.eval x=.slice ad n c->(op=.eql/\b=ad.isNone\/op=.neq/\b= !ad.isNone)->mT P S H w a (.binOp op t x (.const (.slice none 0 0)) t') (.v (.bool b)):=by
       intro b ad n c O hb;refine⟨.bool b,by simp only[rep],fun w' _ o F=>?_⟩;have ec:a.eval (.const (.slice none 0 0))=.slice none 0 0:=rfl;simp only[execOp,F,O,ec];have E:(eqGuard op t x (.const (.slice none 0 0)) (.slice ad n c) (.slice none 0 0)).run P w'=.ok () w':=jV op t x _ _ _ (by simp) (by simp) w';have he:(Op.equal t (.slice ad n c) (.slice none 0 0)).run P w'=.ok ad.isNone w':=by
         have e0:Op.equal t (.slice ad n c) (.slice none 0 0)=Op.equalIn (9999+1) t (.slice ad n c) (.slice none 0 0):=rfl;rw[e0];unfold Op.equalIn;cases ad <;> simp[run_underlying ak]
       rcases hb with⟨rfl,rfl⟩|⟨rfl,rfl⟩
       . exact Ar (by simp only[Sem.run_bind,E,Result.andThen_ok];simp[binOp,he])
       . exact Ar (by simp only[Sem.run_bind,E,Result.andThen_ok];simp[binOp,he])
     by_cases E:gt G
     . have ex:=O E _ (ev x (by simp))
       unfold rG at h;split at h
       . simp only[rep]at ex
         obtain⟨ad,n,c,hv,hl,_,_,hc⟩:=ex;cases ad with
         | none=>
           rcases hc with hc|⟨b,o,sz,hc,_⟩
           . exact⟨_,h.1 hc,fun _=>J _ _ _ _ hv (.inl ⟨rfl,rfl⟩)⟩
           . simp at hc
         | some ad=>exact⟨_,h.2,fun _=>J _ _ _ _ hv (.inl ⟨rfl,rfl⟩)⟩
       . simp only[rep]at ex
         obtain⟨ad,n,c,hv,hl,_,_,hc⟩:=ex;cases ad with
         | none=>
           rcases hc with hc|⟨b,o,sz,hc,_⟩
           . exact⟨_,h.1 hc,fun _=>J _ _ _ _ hv (.inr ⟨rfl,rfl⟩)⟩
           . simp at hc
         | some ad=>exact⟨_,h.2,fun _=>J _ _ _ _ hv (.inr ⟨rfl,rfl⟩)⟩
       . simp only[rep]at ex
         obtain⟨_,_,ad,n,c,hv⟩:=ex;cases ad with
         | none=>exact⟨_,h.1,fun _=>J _ _ _ _ hv (.inl ⟨rfl,rfl⟩)⟩
         | some ad=>exact⟨_,h.2,fun _=>J _ _ _ _ hv (.inl ⟨rfl,rfl⟩)⟩
       . simp only[rep]at ex
         obtain⟨_,_,ad,n,c,hv⟩:=ex;cases ad with
         | none=>exact⟨_,h.1,fun _=>J _ _ _ _ hv (.inr ⟨rfl,rfl⟩)⟩
         | some ad=>exact⟨_,h.2,fun _=>J _ _ _ _ hv (.inr ⟨rfl,rfl⟩)⟩
       . simp only[rep]at ex
         exact⟨_,h,fun _=>J _ none 0 0 ex (.inl ⟨rfl,rfl⟩)⟩
       . simp only[rep]at ex
         exact⟨_,h,fun _=>J _ none 0 0 ex (.inr ⟨rfl,rfl⟩)⟩
       . exact h.elim
     . unfold rG at h
       split at h
       . exact⟨_,h.2,fun Z=>absurd Z E⟩
       . exact⟨_,h.2,fun Z=>absurd Z E⟩
       . exact⟨_,h.2,fun Z=>absurd Z E⟩
       . exact⟨_,h.2,fun Z=>absurd Z E⟩
       . exact⟨_,h,fun Z=>absurd Z E⟩
       . exact⟨_,h,fun Z=>absurd Z E⟩
       . exact h.elim
   obtain⟨x',h,O⟩:=aU (S:=S) (w:=w) h;obtain⟨y',h,X⟩:=aU (S:=S) (w:=w) h;obtain⟨z,I,Y⟩:=RJ (S:=S) (H:=H) (w:=w) h;exact⟨z,I,fun E=>mT.of_does (Y E _ _ (O E _ (ev x (by simp))) (X E _ (ev y (by simp))) x y) (fun o F=>by simp[execOp,F])⟩
 case unOp op t x=>
   obtain⟨x',h,O⟩:=aU (S:=S) (w:=w) h;obtain⟨z,I,Y⟩:=Vi (P:=P) (S:=S) (H:=H) (w:=w) h;exact⟨z,I,fun E=>mT.of_does (Y _ (O E _ (ev x (by simp)))) (fun o F=>by simp[execOp,F])⟩
 case convert src dst x=>
   obtain⟨x',h,O⟩:=aU (S:=S) (w:=w) h;obtain⟨z,I,Y⟩:=Nl (S:=S) (H:=H) (w:=w) h;exact⟨z,I,fun E=>mT.of_does (Y _ (O E _ (ev x (by simp)))) (fun o F=>by simp[execOp,F])⟩
 case slice t x lo hi m=>
   cases m with
   | some m=>
     cases lo with
     | some lo=>exact h.elim
     | none=>
       cases hi with
       | none=>exact h.elim
       | some hi=>
         simp only at h;obtain⟨x',h,O⟩:=aU (S:=S) (w:=w) h;obtain⟨ae,h,aa⟩:=aU (S:=S) (w:=w) h;obtain⟨m',h,hm⟩:=aU (S:=S) (w:=w) h;obtain⟨z,I,Y⟩:=DJ (S:=S) (w:=w) (H:=H) h;exact⟨z,I,fun E=>mT.of_does (Y E _ _ _ (O E _ (ev x (by simp))) (aa E _ (ev hi (by simp))) (hm E _ (ev m (by simp)))) (fun o F=>by simp[execOp,F])⟩
   | none=>
     simp only at h;obtain⟨x',h,O⟩:=aU (S:=S) (w:=w) h;cases lo with
     | some lo=>
       cases hi with
       | some hi=>
         obtain⟨ah,h,ac⟩:=aU (S:=S) (w:=w) h;obtain⟨ae,h,aa⟩:=aU (S:=S) (w:=w) h;obtain⟨z,I,Y⟩:=sE hH h;refine⟨z,I,fun E=>mT.of_does (Y E _ (some (a.eval lo)) (some (a.eval hi)) (O E _ (ev x (by simp))) ?_ (by simp) ?_ (by simp)) (fun o F=>by simp[execOp,F])⟩
         . intro y X;injection X with X;subst X;exact⟨_,rfl,ac E _ (ev lo (by simp))⟩
         . intro y X;injection X with X;subst X;exact⟨_,rfl,aa E _ (ev hi (by simp))⟩
       | none=>
         obtain⟨ah,h,ac⟩:=aU (S:=S) (w:=w) h;obtain⟨z,I,Y⟩:=sE hH h;refine⟨z,I,fun E=>mT.of_does (Y E _ (some (a.eval lo)) none (O E _ (ev x (by simp))) ?_ (by simp) (by simp) (by simp)) (fun o F=>by simp[execOp,F])⟩;intro y X;injection X with X;subst X;exact⟨_,rfl,ac E _ (ev lo (by simp))⟩
     | none=>
       cases hi with
       | some hi=>
         obtain⟨ae,h,aa⟩:=aU (S:=S) (w:=w) h;obtain⟨z,I,Y⟩:=sE hH h;refine⟨z,I,fun E=>mT.of_does (Y E _ none (some (a.eval hi)) (O E _ (ev x (by simp))) (by simp) (by simp) ?_ (by simp)) (fun o F=>by simp[execOp,F])⟩;intro y X;injection X with X;subst X;exact⟨_,rfl,aa E _ (ev hi (by simp))⟩
       | none=>exact h.elim
 case fieldAddr t x f=>
   obtain⟨x',h,O⟩:=aU (S:=S) (w:=w) h;obtain⟨z,I,Y⟩:=CS (G:=G) (S:=S) (H:=H) (w:=w) h;exact⟨z,I,fun E=>mT.of_does (Y E _ (O E _ (ev x (by simp)))) (fun o F=>by simp[execOp,F])⟩
 case field t x f=>
   split at h
   . rename_i o l F
     obtain⟨x',h,O⟩:=aU (S:=S) (w:=w) h;obtain⟨fs,fd,i,hu,hf,rfl,hi,_,hl⟩:=AK F;obtain⟨z,I,Y⟩:=DV (S:=S) (H:=H) (w:=w) hl h;refine⟨z,I,fun E=>?_⟩;obtain⟨cs,e,Y⟩:=Y E _ (O E _ (ev x (by simp)));refine mT.of_does (s:=Instr.field t (.agg cs) f) ?_ (fun o F=>by simp[execOp,F,e]);obtain⟨v,hv,hr⟩:=Y;refine⟨v,hv,fun w' ha=>?_⟩;simp[Instr.field,run_underlying hu,hf,asAgg,hr w' ha]
   . exact h.elim
 case indexAddr t x i=>
   obtain⟨x',h,O⟩:=aU (S:=S) (w:=w) h;obtain⟨i',h,hi⟩:=aU (S:=S) (w:=w) h;obtain⟨z,I,Y⟩:=DA hH h;exact⟨z,I,fun E=>mT.of_does (Y E _ _ (O E _ (ev x (by simp))) (hi E _ (ev i (by simp)))) (fun o F=>by simp[execOp,F])⟩
 case index t x i=>
   obtain⟨x',h,O⟩:=aU (S:=S) (w:=w) h;obtain⟨i',h,hi⟩:=aU (S:=S) (w:=w) h;obtain⟨z,I,Y⟩:=KU (S:=S) (H:=H) (w:=w) h;exact⟨z,I,fun E=>mT.of_does (Y E _ _ (O E _ (ev x (by simp))) (hi E _ (ev i (by simp)))) (fun o F=>by simp[execOp,F])⟩
 case extract x i=>
   obtain⟨x',h,O⟩:=aU (S:=S) (w:=w) h;split at h
   . rename_i vs
     refine⟨_,h.2,fun E=>?_⟩;have e:=O E _ (ev x (by simp));simp only[rep]at e;obtain⟨l,e,hl⟩:=e;obtain⟨u,h1,h2⟩:=BD vs l i hl (h.1 E);exact⟨u,h2,fun w' _ o F=>by simp[execOp,F,e,Instr.extract,h1]⟩
   . exact h.elim
 case lookup t x i ok=>
   obtain⟨x',h,O⟩:=aU (S:=S) (w:=w) h;obtain⟨i',h,hi⟩:=aU (S:=S) (w:=w) h;obtain⟨z,I,Y⟩:=GU (G:=G) hH h;exact⟨z,I,fun E=>mT.of_does (Y E _ _ (O E _ (ev x (by simp))) (hi E _ (ev i (by simp)))) (fun o F=>by simp[execOp,F])⟩
 case makeFunc f first cap=>
   cases f <;> simp only at h <;> try exact h.elim
   rename_i f
   obtain⟨hf,h⟩:=h;subst hf;obtain⟨ys,I,aj⟩:=nY hF cap.toList (fun x O=>hb x (by simp[Array.mem_toList_iff.1 O])) h;refine⟨_,I,fun E=>⟨.func (.func f) #[] (cap.map a.eval),?_,fun w' _ o F=>by simp[execOp,F,Instr.makeFunc]⟩⟩;simp only[rep];exact⟨cap.toList.map a.eval,by rw[<-Array.toList_map],aj E⟩
theorem CA{H':aJ}{ρ:Env}{a:Act}{t:TypeId}{x:Operand}{lo hi m:Option Operand}(hb:∀y∈(Op.slice t x lo hi m).operands,opB a.tmps.size y=true)(hF:FR S w ρ a)(hH:xZ S w H)(h:iA P G ρ H (.slice t x lo hi m) K):
   ∃z,K z/\(gt G->mT P S H' w a (.slice t x lo hi m) z):=by
 have ev:=fun x Y=>cM hF (hb x Y)
 simp only[iA]at h;simp only[Op.operands]at ev hb;cases m with
 | some m=>
   cases lo with
   | some lo=>exact h.elim
   | none=>
     cases hi with
     | none=>exact h.elim
     | some hi=>
       simp only at h;obtain⟨x',h,Y⟩:=aU (S:=S) (w:=w) h;obtain⟨aa,h,I⟩:=aU (S:=S) (w:=w) h;obtain⟨m',h,hm⟩:=aU (S:=S) (w:=w) h;obtain⟨z,X,J⟩:=DJ (S:=S) (w:=w) (H:=H') h;exact⟨z,X,fun E=>mT.of_does (J E _ _ _ (Y E _ (ev x (by simp))) (I E _ (ev hi (by simp))) (hm E _ (ev m (by simp)))) (fun o Z=>by simp[execOp,Z])⟩
 | none=>
   simp only at h;obtain⟨x',h,Y⟩:=aU (S:=S) (w:=w) h;cases lo with
   | some lo=>
     cases hi with
     | some hi=>
       obtain⟨ab,h,O⟩:=aU (S:=S) (w:=w) h;obtain⟨aa,h,I⟩:=aU (S:=S) (w:=w) h;obtain⟨z,X,J⟩:=sE hH h;refine⟨z,X,fun E=>mT.of_does (J E _ (some (a.eval lo)) (some (a.eval hi)) (Y E _ (ev x (by simp))) ?_ (by simp) ?_ (by simp)) (fun o Z=>by simp[execOp,Z])⟩
       . intro y F;injection F with F;subst F;exact⟨_,rfl,O E _ (ev lo (by simp))⟩
       . intro y F;injection F with F;subst F;exact⟨_,rfl,I E _ (ev hi (by simp))⟩
     | none=>
       obtain⟨ab,h,O⟩:=aU (S:=S) (w:=w) h;obtain⟨z,X,J⟩:=sE hH h;refine⟨z,X,fun E=>mT.of_does (J E _ (some (a.eval lo)) none (Y E _ (ev x (by simp))) ?_ (by simp) (by simp) (by simp)) (fun o Z=>by simp[execOp,Z])⟩;intro y F;injection F with F;subst F;exact⟨_,rfl,O E _ (ev lo (by simp))⟩
   | none=>
     cases hi with
     | some hi=>
       obtain⟨aa,h,I⟩:=aU (S:=S) (w:=w) h;obtain⟨z,X,J⟩:=sE hH h;refine⟨z,X,fun E=>mT.of_does (J E _ none (some (a.eval hi)) (Y E _ (ev x (by simp))) (by simp) (by simp) ?_ (by simp)) (fun o Z=>by simp[execOp,Z])⟩;intro y F;injection F with F;subst F;exact⟨_,rfl,I E _ (ev hi (by simp))⟩
     | none=>exact h.elim
end
end Go.Aw
end
section
namespace Go.Aw
def Ys:Array Value:=(Go.Lib.pow10Tab.map fun z=>Value.int .u64 z).toArray
def RA:Array Value:=(Go.Lib.deBruijn64tab.map fun z:Nat=>Value.int .u8 (z:Int)).toArray
def Vy:List (Nat×Array Value):=[(1,Ys),(3,RA)]
end Go.Aw
end
