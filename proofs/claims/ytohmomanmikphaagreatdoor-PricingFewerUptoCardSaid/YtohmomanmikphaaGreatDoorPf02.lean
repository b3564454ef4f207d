import Derived.MapKept
import Derived.Lib.ItoaMem
import Derived.Lib.TrailingZeros
import Derived.Test.YtohmomanmikphaaGreatDoorPf01
set_option linter.unusedSimpArgs false
set_option linter.unusedVariables false
set_option maxRecDepth 100000
section
namespace Go.Aw
open Go.RowKit
structure Sg where
 ro:Nat->Prop
 fz:Nat->Prop
 loc:Nat->Value
 sz:Nat->Nat
 N:Nat
mutual
def rep(S:Sg)(w:World):AV->Value->Prop
 | .v x,y=>y=x
 | .any,_=>True
 | .sl es,y=>∃ad n c,y=.slice ad n c/\es.length=n/\n<=c/\c<=maxLen/\(es=[]\/∃b o sz,ad=some ⟨b,o,none⟩/\S.ro b/\0<sz/\fY S w b sz o es)
 | .rp cs off,y=>∃b o,y=.pointer (some ⟨b,o+off,none⟩)/\S.ro b/\cE S w b o cs
 | .agg cs,y=>∃l:List Value,y=.agg l.toArray/\bF S w cs l/\∀u∈l,u.oneCell'=true
 | .tup vs,y=>∃l:List Value,y=.tuple l.toArray/\bF S w vs l
 | .os k,y=>k<S.N/\y=S.loc k/\∃a n c,y=.slice a n c
 | .op k i f,y=>k<S.N/\∃g n c,S.loc k=.slice (some ⟨g,0,none⟩) n c/\y=.pointer (some ⟨g,i*S.sz k+f,none⟩)
 | .gd g x,y=>(g=true->rep S w x y)/\(g=false->y=undef)
 | .nf x,y=>rep S w x y
 | .fn f cap,y=>∃l:List Value,y=.func (.func f) #[] l.toArray/\bF S w cap l
 | .om k,y=>k<S.N/\y=S.loc k/\∃g,y=.map (some g)
 | .cl es,y=>∃ad n,y=.slice ad n n/\es.length=n/\n<=maxLen/\(es=[]\/∃b o sz,ad=some ⟨b,o,none⟩/\S.ro b/\0<sz/\fY S w b sz o es)
 | .oz k a b,y=>k<S.N/\∃ad n c ad' cc,S.loc k=.slice ad n c/\y=.slice ad' (b-a) cc/\a<=b/\b<=n/\(a<b->∃g,ad=some ⟨g,0,none⟩/\ad'=some ⟨g,a*S.sz k,none⟩)/\(a=0->ad'=ad/\cc=c)
def bF(S:Sg)(w:World):List AV->List Value->Prop
 | [],l=>l=[]
 | x::r,l=>∃u t,l=u::t/\rep S w x u/\bF S w r t
def cE(S:Sg)(w:World)(b:Nat):Nat->List AV->Prop
 | _,[]=>True
 | o,x::r=>(∃u,w.cell? ⟨b,o,none⟩=some u/\u.oneCell'=true/\rep S w x u)/\cE S w b (o+1) r
def fY(S:Sg)(w:World)(b sz:Nat):Nat->List (List AV)->Prop
 | _,[]=>True
 | o,cs::r=>cs.length=sz/\cE S w b o cs/\fY S w b sz (o+sz) r
end
structure Sg.le(S S':Sg):Prop where
 ro:∀k,S.ro k->S'.ro k
 N:S.N<=S'.N
 loc:∀k,k<S.N->S'.loc k=S.loc k
 sz:∀k,k<S.N->S'.sz k=S.sz k
theorem Sg.le_refl(S:Sg):S.le S:=⟨fun _ h=>h,Nat.le_refl _,fun _ _=>rfl,fun _ _=>rfl⟩
theorem Sg.le_trans{S S' E:Sg}(h:S.le S')(F:S'.le E):S.le E:=
 ⟨fun k u=>F.ro k (h.ro k u),Nat.le_trans h.N F.N,fun k u=>(F.loc k (Nat.lt_of_lt_of_le u h.N)).trans (h.loc k u),
   fun k u=>(F.sz k (Nat.lt_of_lt_of_le u h.N)).trans (h.sz k u)⟩
def blk:Value->Option Nat
 | .slice (some a) _ _=>some a.block
 | .map (some g)=>some g
 | _=>none
def eL(S:Sg)(w w':World):Prop:=∀k,S.ro k->w'.heap[k]?=w.heap[k]?
theorem eL.refl(S:Sg)(w:World):eL S w w:=fun _ _=>rfl
section
variable{S S':Sg}{w w':World}
theorem eL.cell(h:eL S w w'){b o:Nat}(u:S.ro b):w'.cell? ⟨b,o,none⟩=w.cell? ⟨b,o,none⟩:=World.cell?_of_block (a:=⟨b,o,none⟩) (h b u)
mutual
theorem jI(u:S.le S')(E:eL S w w'):∀(x:AV) (y:Value),rep S w x y->rep S' w' x y
 | .v _,_,h=>h
 | .any,_,_=>trivial
 | .sl es,y,h=>by
   simp only[rep]at h |-;obtain⟨M,n,c,rfl,h1,h2,T,I⟩:=h;refine⟨M,n,c,rfl,h1,h2,T,?_⟩;rcases I with I|⟨b,o,sz,rfl,F,Z,O⟩
   . exact .inl I
   . exact .inr ⟨b,o,sz,rfl,u.ro b F,Z,zB u E F sz o es O⟩
 | .rp cs off,y,h=>by
   simp only[rep]at h |-;obtain⟨b,o,rfl,F,hc⟩:=h;exact⟨b,o,rfl,u.ro b F,uD u E F o cs hc⟩
 | .agg cs,y,h=>by
   simp only[rep]at h |-;obtain⟨l,rfl,J,h1⟩:=h;exact⟨l,rfl,dD u E cs l J,h1⟩
 | .tup vs,y,h=>by
   simp only[rep]at h |-;obtain⟨l,rfl,J⟩:=h;exact⟨l,rfl,dD u E vs l J⟩
 | .os k,y,h=>by
   simp only[rep]at h |-;exact⟨Nat.lt_of_lt_of_le h.1 u.N,by rw[u.loc k h.1];exact h.2⟩
 | .op k i f,y,h=>by
   simp only[rep]at h |-;refine⟨Nat.lt_of_lt_of_le h.1 u.N,?_⟩;rw[u.loc k h.1,u.sz k h.1];exact h.2
 | .gd g x,y,h=>by
   simp only[rep]at h |-;exact⟨fun hg=>jI u E x y (h.1 hg),h.2⟩
 | .nf x,y,h=>by
   simp only[rep]at h |-;exact jI u E x y h
 | .fn f cap,y,h=>by
   simp only[rep]at h |-;obtain⟨l,rfl,J⟩:=h;exact⟨l,rfl,dD u E cap l J⟩
 | .om k,y,h=>by
   simp only[rep]at h |-;exact⟨Nat.lt_of_lt_of_le h.1 u.N,by rw[u.loc k h.1];exact h.2⟩
 | .oz k a b,y,h=>by
   simp only[rep]at h |-;refine⟨Nat.lt_of_lt_of_le h.1 u.N,?_⟩;rw[u.loc k h.1,u.sz k h.1];exact h.2
 | .cl es,y,h=>by
   simp only[rep]at h |-;obtain⟨M,n,rfl,h1,T,I⟩:=h;refine⟨M,n,rfl,h1,T,?_⟩;rcases I with I|⟨b,o,sz,rfl,F,Z,O⟩
   . exact .inl I
   . exact .inr ⟨b,o,sz,rfl,u.ro b F,Z,zB u E F sz o es O⟩
theorem dD(E:S.le S')(F:eL S w w'):∀(x:List AV) (l:List Value),bF S w x l->bF S' w' x l
 | [],_,h=>h
 | x::r,l,h=>by
   simp only[bF]at h |-;obtain⟨u,t,rfl,h1,I⟩:=h;exact⟨u,t,rfl,jI E F x u h1,dD E F r t I⟩
theorem uD(F:S.le S')(E:eL S w w'){b:Nat}(I:S.ro b):∀(o:Nat) (x:List AV),cE S w b o x->cE S' w' b o x
 | _,[],_=>trivial
 | o,x::r,h=>by
   simp only[cE]at h |-;obtain⟨⟨u,h1,M,J⟩,O⟩:=h;exact⟨⟨u,by rw[E.cell I];exact h1,M,jI F E x u J⟩,uD F E I (o+1) r O⟩
theorem zB(u:S.le S')(E:eL S w w'){b:Nat}(F:S.ro b)(sz:Nat):∀(o:Nat) (x:List (List AV)),fY S w b sz o x->fY S' w' b sz o x
 | _,[],_=>trivial
 | o,x::r,h=>by
   simp only[fY]at h |-;exact⟨h.1,uD u E F o x h.2.1,zB u E F sz (o+sz) r h.2.2⟩
end
theorem wP:∀(cs:List AV) (o j:Nat) {b:Nat},cE S w b o cs->j<cs.length->∃u,w.cell? ⟨b,o+j,none⟩=some u/\u.oneCell'=true/\rep S w (cs.getD j .any) u
 | [],_,_,_,_,h=>by simp at h
 | x::r,o,0,b,h,_=>by
   simp only[cE]at h;simpa using h.1
 | x::r,o,j+1,b,h,hj=>by
   simp only[cE]at h;have:=wP r (o+1) j h.2 (by simpa using hj);rw[show o+1+j=o+(j+1)by omega]at this;simpa using this
theorem uO:∀(cs:List AV) (o j:Nat) {b:Nat},cE S w b o cs->cE S w b (o+j) (cs.drop j)
 | [],_,_,_,_=>by simp[cE]
 | x::r,o,0,b,h=>by simpa using h
 | x::r,o,j+1,b,h=>by
   simp only[cE]at h;have:=uO r (o+1) j h.2;rw[show o+1+j=o+(j+1)by omega]at this;simpa using this
theorem tN:∀(cs:List AV) (o j:Nat) {b:Nat},cE S w b o cs->cE S w b o (cs.take j)
 | [],_,_,_,_=>by simp[cE]
 | x::r,o,0,b,h=>by simp[cE]
 | x::r,o,j+1,b,h=>by
   simp only[cE,List.take_succ_cons]at h |-;exact⟨h.1,tN r (o+1) j h.2⟩
theorem kL:∀(cs:List AV) (o:Nat) {b:Nat},cE S w b o cs->∃l:List Value,l.length=cs.length/\bF S w cs l/\(∀u∈l,u.oneCell'=true)/\∀j u,l[j]?=some u->w.cell? ⟨b,o+j,none⟩=some u
 | [],_,_,_=>⟨[],rfl,by simp[bF],by simp,by simp⟩
 | x::r,o,b,h=>by
   simp only[cE]at h;obtain⟨⟨u,h1,O,F⟩,Z⟩:=h;obtain⟨l,I,M,J,T⟩:=kL r (o+1) Z;refine⟨u::l,by simp[I],?_,?_,?_⟩
   . simp only[bF]
     exact⟨u,l,rfl,F,M⟩
   . intro v E
     rcases List.mem_cons.1 E with rfl|E
     . exact O
     . exact J v E
   . intro j v E
     cases j with
     | zero=>simp at E;subst E;simpa using h1
     | succ j=>rw[show o+(j+1)=o+1+j by omega];exact T j v (by simpa using E)
theorem pC:∀(es:List (List AV)) (o i:Nat) {b sz:Nat},fY S w b sz o es->i<es.length->(es.getD i []).length=sz/\cE S w b (o+i*sz) (es.getD i [])
 | [],_,_,_,_,_,h=>by simp at h
 | x::r,o,0,b,sz,h,_=>by
   simp only[fY]at h;simpa using⟨h.1,h.2.1⟩
 | x::r,o,i+1,b,sz,h,hi=>by
   simp only[fY]at h;have:=pC r (o+sz) i h.2.2 (by simpa using hi);rw[show o+sz+i*sz=o+(i+1)*sz by rw[Nat.add_mul];omega]at this;simpa using this
theorem zX:∀(es:List (List AV)) (o i:Nat) {b sz:Nat},fY S w b sz o es->fY S w b sz (o+i*sz) (es.drop i)
 | [],_,_,_,_,_=>by simp[fY]
 | x::r,o,0,b,sz,h=>by simpa using h
 | x::r,o,i+1,b,sz,h=>by
   simp only[fY]at h;have:=zX r (o+sz) i h.2.2;rw[show o+sz+i*sz=o+(i+1)*sz by rw[Nat.add_mul];omega]at this;simpa using this
theorem tJ:∀(es:List (List AV)) (o i:Nat) {b sz:Nat},fY S w b sz o es->fY S w b sz o (es.take i)
 | [],_,_,_,_,_=>by simp[fY]
 | x::r,o,0,b,sz,h=>by simp[fY]
 | x::r,o,i+1,b,sz,h=>by
   simp only[fY,List.take_succ_cons]at h |-;exact⟨h.1,h.2.1,tJ r _ i h.2.2⟩
theorem pX:∀(xs u:List AV) (o:Nat) {b:Nat},cE S w b o (xs++u)↔cE S w b o xs/\cE S w b (o+xs.length) u
 | [],u,o,b=>by simp[cE]
 | x::r,u,o,b=>by
   simp only[List.cons_append,cE,pX r u (o+1),List.length_cons,show o+1+r.length=o+(r.length+1)by omega,and_assoc]
theorem tX:∀(es:List (List AV)) (o:Nat) {b sz:Nat},fY S w b sz o es->cE S w b o es.flatten
 | [],_,_,_,_=>by simp[cE]
 | x::r,o,b,sz,h=>by
   simp only[fY]at h;rw[List.flatten_cons,pX];refine⟨h.2.1,?_⟩;rw[h.1];exact tX r _ h.2.2
theorem nU:∀(es:List (List AV)) (o:Nat) {b sz:Nat},(∀cs∈es,cs.length=sz)->cE S w b o es.flatten->fY S w b sz o es
 | [],_,_,_,_,_=>by simp[fY]
 | x::r,o,b,sz,hl,h=>by
   rw[List.flatten_cons,pX]at h;have u:=hl x (by simp);rw[u]at h;simp only[fY];exact⟨u,h.1,nU r _ (fun cs E=>hl cs (by simp[E])) h.2⟩
theorem mH:∀(es:List (List AV)) {sz:Nat},(∀cs∈es,cs.length=sz)->es.flatten.length=es.length*sz
 | [],_,_=>by simp
 | x::r,sz,hl=>by
   rw[List.flatten_cons,List.length_append,hl x (by simp),mH r (fun cs u=>hl cs (by simp[u])),List.length_cons,Nat.add_mul];omega
theorem fV:∀(x:List AV) (l:List Value),bF S w x l->l.length=x.length
 | [],l,h=>by simp only[bF]at h;simp[h]
 | x::r,l,h=>by
   simp only[bF]at h;obtain⟨u,t,rfl,_,E⟩:=h;simp[fV r t E]
theorem AK:∀(x:List AV) (l:List Value) (j:Nat),bF S w x l->j<x.length->∃u,l[j]?=some u/\rep S w (x.getD j .any) u
 | [],_,_,_,h=>by simp at h
 | x::r,l,j,h,hj=>by
   simp only[bF]at h;obtain⟨u,t,rfl,h1,I⟩:=h;cases j with
   | zero=>exact⟨u,by simp,by simpa using h1⟩
   | succ j=>
     obtain⟨v,F,E⟩:=AK r t j I (by simpa using hj);exact⟨v,by simpa using F,by simpa using E⟩
theorem cT:∀(x y:List AV) (l m:List Value),bF S w x l->bF S w y m->bF S w (x++y) (l++m)
 | [],y,l,m,h,h'=>by simp only[bF]at h;subst h;simpa using h'
 | x::r,y,l,m,h,h'=>by
   simp only[bF]at h;obtain⟨u,t,rfl,h1,E⟩:=h;simp only[List.cons_append,bF];exact⟨u,t++m,rfl,h1,cT r y t m E h'⟩
theorem tD:∀(x:List AV) (l:List Value) (j:Nat),bF S w x l->bF S w (x.drop j) (l.drop j)
 | [],l,j,h=>by simp only[bF]at h;subst h;simp[bF]
 | x::r,l,j,h=>by
   cases j with
   | zero=>simpa using h
   | succ j=>
     simp only[bF]at h;obtain⟨u,t,rfl,_,E⟩:=h;simpa using tD r t j E
theorem pD:∀(x:List AV) (l:List Value) (j:Nat),bF S w x l->bF S w (x.take j) (l.take j)
 | [],l,j,h=>by simp only[bF]at h;subst h;simp[bF]
 | x::r,l,j,h=>by
   cases j with
   | zero=>simp[bF]
   | succ j=>
     simp only[bF]at h;obtain⟨u,t,rfl,h1,E⟩:=h;simp only[List.take_succ_cons,bF];exact⟨u,t.take j,rfl,h1,pD r t j E⟩
theorem gV:∀(x:List AV) (l:List Value) (o:Nat) {b:Nat},bF S w x l->(∀u∈l,u.oneCell'=true)->(∀j u,l[j]?=some u->w.cell? ⟨b,o+j,none⟩=some u)->cE S w b o x
 | [],_,_,_,_,_,_=>by simp[cE]
 | x::r,l,o,b,h,h1,hc=>by
   simp only[bF]at h;obtain⟨u,t,rfl,I,F⟩:=h;simp only[cE];refine⟨⟨u,by simpa using hc 0 u (by simp),h1 u (by simp),I⟩,gV r t (o+1) F (fun v E=>h1 v (by simp[E])) fun j v E=>?_⟩;rw[show o+1+j=o+(j+1)by omega];exact hc (j+1) v (by simpa using E)
end
end Go.Aw
end
section
namespace Go.Aw
open Go.RowKit
def jL(S:Sg)(w:World):Nat->List (List AV)->List MapEntry->Prop
 | _,[],ms=>ms=[]
 | i,cs::r,ms=>∃m t,ms=m::t/\m.born=i/\bF S w cs [m.key,m.val]/\jL S w (i+1) r t
def HT(S:Sg)(w:World)(k:Nat)(r:Row):Prop:=∃xs,w.ownsRow 0 r.e r.sz (S.loc k) r.es.length xs/\bF S w r.es.flatten xs/\∀u∈xs,u.oneCell'=true
def U5(S:Sg)(w:World)(k:Nat)(r:Row):Prop:=∃g ms,S.loc k=.map (some g)/\w.heap[g]?=some (.map (List.toArray ms) ms.length)/\jL S w 0 r.es ms/\r.sz=2
theorem aeA(a:Option Addr)(n c:Nat):blk (.slice a n c)=(Value.slice a n c).ownBlock:=by cases a <;> rfl
structure RowOK(S:Sg)(w:World)(k:Nat)(r:Row):Prop where
 lt:k<S.N
 sz:r.sz=S.sz k
 pos:0<r.sz
 len:∀cs∈r.es,cs.length=r.sz
 own:HT S w k r\/U5 S w k r
def xF(S:Sg)(w:World)(H:aG):Prop:=∀k r,H k=some r->RowOK S w k r
theorem RowOK.sl{S:Sg}{w:World}{k:Nat}{r:Row}(h:RowOK S w k r){a:Option Addr}{n c:Nat}(u:S.loc k=.slice a n c):HT S w k r:=by
 rcases h.own with h1|⟨g,ms,h1,_⟩
 . exact h1
 . rw[u]at h1;cases h1
theorem RowOK.mp{S:Sg}{w:World}{k:Nat}{r:Row}(h:RowOK S w k r){g:Nat}(u:S.loc k=.map (some g)):U5 S w k r:=by
 rcases h.own with⟨xs,E,_⟩|h1
 . rcases E.2 with⟨hv,_⟩|⟨_,_,_,hv,_⟩ <;> (rw[u]at hv;cases hv)
 . exact h1
structure Agree(S:Sg)(H:aG)(w w':World):Prop where
 kept:eL S w w'
 own:∀k r,H k=some r->∀g,blk (S.loc k)=some g->w'.heap[g]?=w.heap[g]?
theorem Agree.refl(S:Sg)(H:aG)(w:World):Agree S H w w:=⟨eL.refl S w,fun _ _ _ _ _=>rfl⟩
def uC(P:Program)(S:Sg)(H:aG)(w:World)(z:AV)(e:Sem Value):Prop:=
 ∃v,rep S w z v/\∀w',Agree S H w w'->e.run P w'=.ok v w'
section
variable{P:Program}{S:Sg}{H:aG}{w:World}{G:Option Bool}{K:AV->Prop}
theorem kC{x:Value}:rep S w (.v x) x:=by simp only[rep]
theorem sJ{t:TypeId}{l:Option Nat}(h:ldT P t=some l):∃d,P.underlying t=some d /\
   match l with
   | none=>(∀fs,d≠.struct fs)/\∀n e,d≠.array n e
   | some n=>((∃fs,d=.struct fs)\/∃m e,d=.array m e)/\∃i,P.info? t=some i/\i.size=n:=by
 unfold ldT at h;cases E:P.underlying t with
 | none=>rw[E]at h;simp at h
 | some d=>
   refine⟨d,rfl,?_⟩;rw[E]at h;cases u:P.info? t with
   | none=>rw[u]at h;cases d <;> simp at h
   | some i=>
     rw[u]at h;cases d <;> simp at h <;> subst h <;> simp
theorem oT{t:TypeId}{l:Option Nat}(h:ldT P t=some l)(w:World):(isAgg t).run P w=.ok l.isSome w:=by
 obtain⟨d,u,E⟩:=sJ h;cases l with
 | none=>
   obtain⟨h1,F⟩:=E;simp only[isAgg,Sem.run_bind,run_underlying u,Result.andThen];cases d <;> simp_all
 | some n=>
   obtain⟨h1,_⟩:=E;simp only[isAgg,Sem.run_bind,run_underlying u,Result.andThen];rcases h1 with⟨fs,rfl⟩|⟨m,e,rfl⟩ <;> simp
theorem rX{t:TypeId}{n:Nat}(h:ldT P t=some (some n))(w:World):(sizeOf t).run P w=.ok n w:=by
 obtain⟨d,F,E⟩:=sJ h;obtain⟨_,i,u,rfl⟩:=E;simp[sizeOf,typeInfo,u]
theorem vB{t:TypeId}(h:ldT P t=some none){a:Addr}{v:Value}(u:w.cell? a=some v):(loadVar t a).run P w=.ok v w:=by
 simp[loadVar,oT h,u]
theorem sX{t:TypeId}{l:List Value}(h:ldT P t=some (some l.length)){b o:Nat}(E:∀j v,l[j]?=some v->w.cell? ⟨b,o+j,none⟩=some v):
   (loadVar t ⟨b,o,none⟩).run P w=.ok (.agg l.toArray) w:=by
 have:=run_loadCells_list (P:=P) w ⟨b,o,none⟩ l (fun j v u=>by rw[Addr.add_lit];exact E j v u);simp[loadVar,oT h,rX h,this]
theorem RowOK.cells{k:Nat}{r:Row}(h:RowOK S w k r){J:Option Addr}{n0 M:Nat}(O:S.loc k=.slice J n0 M)(E:r.es≠[]):∃g n c,S.loc k=.slice (some ⟨g,0,none⟩) n c/\cE S w g 0 r.es.flatten/\n=r.es.length:=by
 obtain⟨xs,F,T,h1⟩:=h.sl O;rcases F.2 with⟨_,Z⟩|⟨g,cap,cur,I,_⟩
 . exact absurd (List.eq_nil_of_length_eq_zero Z) E
 . refine⟨g,_,cap,I,?_,rfl⟩
   refine gV _ xs 0 T h1 fun j u hu=>?_
   have:=F.cells (g:=g) (by rw[I];rfl) j u hu
   rwa [Addr.add_lit]at this
theorem RowOK.els{k:Nat}{r:Row}(h:RowOK S w k r){I:Option Addr}{J O:Nat}(F:S.loc k=.slice I J O)(u:r.es≠[]):∃g n c,S.loc k=.slice (some ⟨g,0,none⟩) n c/\fY S w g r.sz 0 r.es/\n=r.es.length:=by
 obtain⟨g,n,c,h1,M,E⟩:=h.cells F u;exact⟨g,n,c,h1,nU _ _ h.len M,E⟩
theorem Agree.cell{w':World}(E:Agree S H w w'){b o:Nat}{u:Value}(F:S.ro b)(h:w.cell? ⟨b,o,none⟩=some u):w'.cell? ⟨b,o,none⟩=some u:=(E.kept.cell F).trans h
theorem Agree.cellOwn{w':World}(F:Agree S H w w'){k g n c o:Nat}{r:Row}{u:Value}(I:H k=some r)(E:S.loc k=.slice (some ⟨g,0,none⟩) n c)(h:w.cell? ⟨g,o,none⟩=some u):w'.cell? ⟨g,o,none⟩=some u:=by
 have:=F.own k r I g (by rw[E];rfl);exact(World.cell?_of_block (a:=⟨g,o,none⟩) this).trans h
theorem Cw{t:TypeId}{l:Option Nat}{x:AV}(hl:ldT P t=some l)(hH:xF S w H)(h:mU G H l x K):
   ∃z,K z/\(gt G->∀u,rep S w x u->uC P S H w z (Instr.loadAt t u)):=by
 unfold mU at h;split at h
 . rename_i cs off
   cases l with
   | none=>
     refine⟨_,h.2,fun M u J=>?_⟩;simp only[rep]at J;obtain⟨b,o,rfl,hb,hc⟩:=J;obtain⟨v,h1,_,h3⟩:=wP cs o off hc (h.1 M);refine⟨v,h3,fun w' O=>?_⟩;simp[Instr.loadAt,Instr.sureAddr,vB hl (O.cell hb h1)]
   | some n=>
     refine⟨_,h.2,fun M u J=>?_⟩;simp only[rep]at J;obtain⟨b,o,rfl,hb,hc⟩:=J;obtain⟨l,I,e2,e3,e4⟩:=kL _ _ (tN _ _ n (uO cs o off hc));have aa:=h.1 M;have hn:l.length=n:=by rw[I];simp;omega
     refine⟨.agg l.toArray,by simp only[rep];exact⟨l,rfl,e2,e3⟩,fun w' O=>?_⟩;rw[<-hn]at hl;simp[Instr.loadAt,Instr.sureAddr,sX hl (fun j v hj=>O.cell hb (e4 j v hj))]
 . rename_i k i f
   split at h
   . rename_i r hk
     have hr:=hH k r hk;cases l with
     | none=>
       refine⟨_,h.2,fun M u J=>?_⟩;simp only[rep]at J;obtain⟨_,g,n,c,E,rfl⟩:=J;obtain⟨Z,hf⟩:=h.1 M;have T:r.es≠[]:=fun e=>by rw[e]at Z;simp at Z
       obtain⟨g',n',c',F,he,_⟩:=hr.els E T;rw[E]at F;injection F with I e2 e3;injection I with I;injection I with I;subst I;obtain⟨e4,e5⟩:=pC _ 0 i he Z;obtain⟨v,h1,_,h3⟩:=wP _ _ f e5 (by rw[e4];exact hf);refine⟨v,h3,fun w' O=>?_⟩;rw[<-hr.sz];rw[Nat.zero_add]at h1;simp[Instr.loadAt,Instr.sureAddr,vB hl (O.cellOwn hk E h1)]
     | some m=>
       refine⟨_,h.2,fun M u J=>?_⟩;simp only[rep]at J;obtain⟨_,g,n,c,E,rfl⟩:=J;obtain⟨Z,hf⟩:=h.1 M;have T:r.es≠[]:=fun e=>by rw[e]at Z;simp at Z
       obtain⟨g',n',c',F,he,_⟩:=hr.els E T;rw[E]at F;injection F with I e2 e3;injection I with I;injection I with I;subst I;obtain⟨e4,e5⟩:=pC _ 0 i he Z;obtain⟨l,I,e2,e3,e6⟩:=kL _ _ (tN _ _ m (uO _ _ f e5));have hn:l.length=m:=by rw[I,List.length_take,List.length_drop,e4];omega
       refine⟨.agg l.toArray,by simp only[rep];exact⟨l,rfl,e2,e3⟩,fun w' O=>?_⟩;rw[<-hn]at hl;rw[<-hr.sz];rw[Nat.zero_add]at e6;simp[Instr.loadAt,Instr.sureAddr,sX hl (fun j v hj=>O.cellOwn hk E (e6 j v hj))]
   . exact h.elim
 . exact h.elim
theorem lV{t:TypeId}(h:ldT P t=some none){l:List Value}{o:Nat}{u:Value}(E:l[o]?=some u):(part t l.toArray o).run P w=.ok u w:=by
 simp[part,oT h,E]
theorem FI{t:TypeId}{n:Nat}(h:ldT P t=some (some n)){l:List Value}{o:Nat}:(part t l.toArray o).run P w=.ok (.agg ((l.drop o).take n).toArray) w:=by
 simp[part,oT h,rX h,List.extract_eq_take_drop]
theorem Ce{t:TypeId}{l:Option Nat}{x:AV}{off:Nat}(F:ldT P t=some l)(h:apart G off l x K):
   ∃z,K z/\(gt G->∀u,rep S w x u->∃cs:Array Value,u=.agg cs/\uC P S H w z (part t cs off)):=by
 unfold apart at h;split at h
 . rename_i cs
   cases l with
   | none=>
     refine⟨_,h.2,fun I u E=>?_⟩;simp only[rep]at E;obtain⟨l,rfl,h1,_⟩:=E;obtain⟨v,J,M⟩:=AK cs l off h1 (h.1 I);exact⟨_,rfl,v,M,fun w' _=>lV F J⟩
   | some n=>
     refine⟨_,h.2,fun I u E=>?_⟩;simp only[rep]at E;obtain⟨l,rfl,h1,O⟩:=E;refine⟨_,rfl,_,?_,fun w' _=>FI F⟩;simp only[rep];exact⟨_,rfl,pD _ _ n (tD _ _ off h1),fun u E=>O u (List.mem_of_mem_drop (List.mem_of_mem_take E))⟩
 . exact h.elim
theorem yE{t:TypeId}{f o:Nat}{l:Option Nat}(h:aL P t f=some (o,l)):
   ∃fs u i,P.underlying t=some (.struct fs)/\fs[f]?=some u/\u.offset=o/\P.info? u.type=some i/\i.size≠0/\ldT P u.type=some l:=by
 unfold aL at h;cases J:P.underlying t with
 | none=>simp[J]at h
 | some d=>
   cases d <;> simp only[J]at h <;> try (simp at h;done)
   rename_i fs
   cases E:fs[f]? with
   | none=>simp[E]at h
   | some u=>
     simp only[E]at h;cases I:P.info? u.type with
     | none=>simp[I]at h
     | some i=>
       simp only[I]at h;split at h
       . simp at h
       . rename_i M
         cases F:ldT P u.type with
         | none=>simp[F]at h
         | some l'=>
           simp[F]at h;obtain⟨rfl,rfl⟩:=h;exact⟨fs,u,i,rfl,E,rfl,I,M,F⟩
theorem CM{t:TypeId}{f o:Nat}{l:Option Nat}(h:aL P t f=some (o,l))(b p:Nat)(w:World):
   (Instr.fieldAt t (.pointer (some ⟨b,p,none⟩)) f).run P w=.ok (.pointer (some ⟨b,p+o,none⟩)) w:=by
 obtain⟨fs,J,i,I,u,rfl,E,F,_⟩:=yE h;simp[Instr.fieldAt,run_underlying I,u,Instr.sureAddr,fieldPlace,sizeOf,typeInfo,E,F,Addr.add_lit]
theorem Bi{t:TypeId}{f:Nat}{x:AV}(h:iG P t f x K):
   ∃z,K z/\(gt G->∀u,rep S w x u->uC P S H w z (Instr.fieldAt t u f)):=by
 unfold iG at h;split at h
 . rename_i cs off
   split at h
   . rename_i o l F
     refine⟨_,h,fun _ u E=>?_⟩;simp only[rep]at E;obtain⟨b,p,rfl,J,I⟩:=E;refine⟨_,?_,fun w' _=>CM F b (p+off) w'⟩;simp only[rep];exact⟨b,p,by rw[Nat.add_assoc],J,I⟩
   . exact h.elim
 . rename_i k i g
   split at h
   . rename_i o l F
     refine⟨_,h,fun _ u E=>?_⟩;simp only[rep]at E;obtain⟨h1,b,n,c,M,rfl⟩:=E;refine⟨_,?_,fun w' _=>CM F b _ w'⟩;simp only[rep];exact⟨h1,b,n,c,M,by rw[Nat.add_assoc]⟩
   . exact h.elim
 . exact h.elim
theorem gR{t:TypeId}{e sz u:Nat}(h:bR P t=some (e,sz,u)):
   ∃i z,P.underlying t=some (.slice e)/\P.info? e=some i/\i.size=sz/\i.bytes=u/\0<sz/\0<u/\i.zero=some z/\z.cells.size=sz:=by
 unfold bR at h;cases M:P.underlying t with
 | none=>simp[M]at h
 | some d=>
   cases d <;> simp only[M]at h <;> try (simp at h;done)
   rename_i O
   cases F:P.info? O with
   | none=>simp[F]at h
   | some i=>
     simp only[F]at h;split at h
     . simp at h
     . rename_i J
       simp at h;obtain⟨rfl,rfl,rfl⟩:=h;simp only[not_or,ne_eq,Decidable.not_not]at J;obtain⟨h1,T,E⟩:=J;cases I:i.zero with
       | none=>simp[I]at E
       | some z=>
         simp[I]at E;exact⟨i,z,rfl,F,rfl,rfl,by omega,by omega,I,E⟩
theorem Hk{t:TypeId}{n s:Nat}{l:Option Nat}(h:rM P t=some (n,s,l)):
   ∃e i,P.underlying t=some (.array n e)/\P.info? e=some i/\i.size=s/\s≠0/\ldT P e=some l:=by
 unfold rM at h;cases F:P.underlying t with
 | none=>simp[F]at h
 | some d=>
   cases d <;> simp only[F]at h <;> try (simp at h;done)
   rename_i m e
   cases E:P.info? e with
   | none=>simp[E]at h
   | some i=>
     simp only[E]at h;split at h
     . simp at h
     . rename_i I
       cases u:ldT P e with
       | none=>simp[u]at h
       | some l'=>
         simp[u]at h;obtain⟨rfl,rfl,rfl⟩:=h;exact⟨e,i,rfl,E,rfl,I,u⟩
theorem vZ{t:TypeId}{e sz u:Nat}(h:bR P t=some (e,sz,u))(b o len cap:Nat)(k:IntKind)(i:Int)(h0:0<=i)(h1:i<len)(w:World):
   (Instr.indexAt t (.slice (some ⟨b,o,none⟩) len cap) (.int k i)).run P w=.ok (.pointer (some ⟨b,o+i.toNat*sz,none⟩)) w:=by
 obtain⟨E,z,I,F,rfl,_⟩:=gR h;simp[Instr.indexAt,run_underlying I,asIntOf,h0,h1,sizeOf,typeInfo,F,Addr.add_lit]
theorem vA{t:TypeId}{n s:Nat}{l:Option Nat}(h:rM P t=some (n,s,l))(b o:Nat)(k:IntKind)(i:Int)(h0:0<=i)(h1:i<n)(w:World):
   (Instr.indexAt t (.pointer (some ⟨b,o,none⟩)) (.int k i)).run P w=.ok (.pointer (some ⟨b,o+i.toNat*s,none⟩)) w:=by
 obtain⟨e,u,F,E,rfl,_⟩:=Hk h;simp[Instr.indexAt,run_underlying F,asIntOf,h0,h1,Instr.sureAddr,sizeOf,typeInfo,E,Addr.add_lit]
theorem Bb{t:TypeId}{x i:AV}(hH:xF S w H)(h:eO P G H t x i K):
   ∃z,K z/\(gt G->∀u v,rep S w x u->rep S w i v->uC P S H w z (Instr.indexAt t u v)):=by
 unfold eO at h;split at h
 . rename_i es k n
   split at h
   . rename_i e sz T he
     refine⟨_,h.2,fun M u v F I=>?_⟩;obtain⟨⟨h0,h1⟩,h2⟩:=h.1 M;simp only[rep]at F I;subst I;obtain⟨ad,m,c,rfl,e1,_,_,e2⟩:=F;rcases e2 with rfl|⟨b,o,aa,rfl,hb,_,Z⟩
     . simp at h1;omega
     . have J:n.toNat<es.length:=by omega
       obtain⟨e3,e4⟩:=pC es o n.toNat Z J;have ab:aa=sz:=by rw[<-e3,h2]
       subst ab;refine⟨_,?_,fun w' _=>vZ he b o m c k n h0 (by omega) w'⟩;simp only[rep];exact⟨b,_,by rw[Nat.add_zero],hb,e4⟩
   . exact h.elim
 . rename_i k ik n
   split at h
   . rename_i r e sz T hk he
     refine⟨_,h.2,fun M u v F I=>?_⟩;obtain⟨⟨h0,h1⟩,h2⟩:=h.1 M;have hr:=hH k r hk;have ac:r.es≠[]:=fun e=>by rw[e]at h1;simp at h1;omega
     simp only[rep]at F I;subst I;obtain⟨J,rfl,_,_,_,O⟩:=F;obtain⟨g,m,c,E,_,hm⟩:=hr.els O ac;rw[E];refine⟨_,?_,fun w' _=>vZ he g 0 m c ik n h0 (by omega) w'⟩;simp only[rep];exact⟨J,g,m,c,E,by rw[<-hr.sz,h2];simp⟩
   . exact h.elim
 . rename_i cs off k n
   split at h
   . rename_i m s l ha
     refine⟨_,h.2,fun M u v F I=>?_⟩;obtain⟨h0,h1⟩:=h.1 M;simp only[rep]at F I;subst I;obtain⟨b,o,rfl,hb,hc⟩:=F;refine⟨_,?_,fun w' _=>vA ha b (o+off) k n h0 h1 w'⟩;simp only[rep];exact⟨b,o,by rw[Nat.add_assoc],hb,hc⟩
   . exact h.elim
 . rename_i k j f ik n
   split at h
   . rename_i m s l ha
     refine⟨_,h.2,fun M u v F I=>?_⟩;obtain⟨h0,h1⟩:=h.1 M;simp only[rep]at F I;subst I;obtain⟨J,g,n',c,E,rfl⟩:=F;refine⟨_,?_,fun w' _=>vA ha g _ ik n h0 h1 w'⟩;simp only[rep];exact⟨J,g,n',c,E,by rw[Nat.add_assoc]⟩
   . exact h.elim
 . exact h.elim
theorem vW{t:TypeId}(h:bY P t=true):∃e,P.underlying t=some (.slice e):=by
 unfold bY at h;split at h
 . rename_i e u;exact⟨e,u⟩
 . simp at h
theorem eP{t:TypeId}(h:dJ P t=true):P.underlying t=some .string:=by
 unfold dJ at h;split at h
 . rename_i u;exact u
 . simp at h
theorem Oc{t:TypeId}(h:xN P t=true):P.underlying t=some .bool:=by
 unfold xN at h;split at h
 . rename_i u;exact u
 . simp at h
theorem Er{t ty:TypeId}{x:AV}(O:xF S w H)(h:Ft P H t x K):
   ∃z,K z/\(gt G->∀u,rep S w x u->uC P S H w z (Builtin.len_ #[t] ty #[u])):=by
 unfold Ft at h;split at h
 . rename_i es
   split at h
   . rename_i I
     obtain⟨e,J⟩:=vW I;refine⟨_,h,fun _ u E=>?_⟩;simp only[rep]at E;obtain⟨ad,m,c,rfl,T,_⟩:=E;refine⟨_,kC,fun w' _=>?_⟩;simp[Builtin.len_,run_underlying J,goInt,T]
   . exact h.elim
 . rename_i k
   split at h
   . rename_i r hk
     split at h
     . rename_i I
       obtain⟨e,J⟩:=vW I;refine⟨_,h,fun _ u E=>?_⟩;simp only[rep]at E;obtain⟨_,rfl,_,_,_,F⟩:=E;obtain⟨xs,ho,_⟩:=(O k r hk).sl F;refine⟨_,kC,fun w' _=>?_⟩;rcases ho.2 with⟨M,Z⟩|⟨g,cap,cur,M,_⟩
       . simp[Builtin.len_,run_underlying J,goInt,M,Z]
       . simp[Builtin.len_,run_underlying J,goInt,M]
     . exact h.elim
   . exact h.elim
 . rename_i s
   split at h
   . rename_i I
     refine⟨_,h,fun _ u E=>?_⟩;simp only[rep]at E;subst E;refine⟨_,kC,fun w' _=>?_⟩;simp[Builtin.len_,run_underlying (eP I),goInt]
   . exact h.elim
 . exact h.elim
theorem D0{x y:AV}{tys:Array TypeId}{ty:TypeId}(h:MN x y K):
   ∃z,K z/\(gt G->∀u v,rep S w x u->rep S w y v->uC P S H w z (Builtin.max_ tys ty #[u,v])):=by
 unfold MN at h;split at h
 . refine⟨_,h,fun _ u v F E=>?_⟩
   simp only[rep]at F E;subst F;subst E;exact⟨_,kC,fun w' _=>by simp[Builtin.max_,Builtin.max2,jW]⟩
 . exact h.elim
theorem E8{x y:AV}{tys:Array TypeId}{ty:TypeId}(h:Pe x y K):
   ∃z,K z/\(gt G->∀u v,rep S w x u->rep S w y v->uC P S H w z (Builtin.min_ tys ty #[u,v])):=by
 unfold Pe at h;split at h
 . refine⟨_,h,fun _ u v F E=>?_⟩
   simp only[rep]at F E;subst F;subst E;exact⟨_,kC,fun w' _=>by simp[Builtin.min_,Builtin.min2,ZH]⟩
 . exact h.elim
end
end Go.Aw
end
section
namespace Go.Aw
open Go.RowKit
section
variable{P:Program}{S:Sg}{H:aG}{w:World}{G:Option Bool}{K:AV->Prop}
theorem gN{z:AV}{e:Sem Value}{v:Value}(u:rep S w z v)(h:∀w',e.run P w'=.ok v w'):uC P S H w z e:=⟨v,u,fun w' _=>h w'⟩
theorem kI{t:TypeId}{c:Nat}(h:rA P t=some c):(c=0/\∃k,P.underlying t=some (.int k))\/(c=1/\P.underlying t=some .string)\/(c=2/\P.underlying t=some .bool):=by
 unfold rA at h;split at h <;> simp_all
theorem P9{t:TypeId}{c:Nat}(h:rA P t=some c)(u:(P.info? t).isSome=true):ldT P t=some none:=by
 obtain⟨i,u⟩:=Option.isSome_iff_exists.1 u;unfold ldT;rw[u];rcases kI h with⟨_,k,hk⟩|⟨_,hk⟩|⟨_,hk⟩ <;> rw[hk]
theorem sT{t:TypeId}{c:Nat}{x y:AV}{u v:Value}{b:Bool}{d:Nat}(J:rA P t=some c)(h:sC c x y=some b)(I:rep S w x u)(F:rep S w y v)(w':World):
   (Op.equalIn (d+1) t u v).run P w'=.ok b w':=by
 unfold sC at h;split at h
 . split at h
   . simp only[rep]at I F
     subst I F
     rename_i M
     subst M;simp at h;rcases kI J with⟨_,k',E⟩|⟨h0,_⟩|⟨h0,_⟩
     . rw[run_equalIn_int w' d t _ k' _ _ E,h]
     . simp at h0
     . simp at h0
   . simp at h
 . simp only[rep]at I F
   subst I F;rcases kI J with⟨h0,_⟩|⟨_,E⟩|⟨h0,_⟩
   . simp at h0
   . rw[run_equalIn_string w' d t _ _ E]
     injection h with h;rw[h]
   . simp at h0
 . simp only[rep]at I F
   subst I F;rcases kI J with⟨h0,_⟩|⟨h0,_⟩|⟨_,E⟩
   . simp at h0
   . simp at h0
   . rw[run_equalIn_bool' w' d t _ _ E]
     injection h with h;rw[h]
 . simp at h
theorem qN:∀(fs:List Field) (l:List Nat) (xs ys:List AV) (o:Nat) (us vs pu pv:List Value) (b:Bool) (d:Nat),
   nC P o fs=some l->gA l xs ys=some b->bF S w xs us->bF S w ys vs->pu.length=o->pv.length=o->∀w':World,
   (Op.eqFields (d+1) (pu++us).toArray (pv++vs).toArray fs).run P w'=.ok b w'
 | [],l,xs,ys,o,us,vs,pu,pv,b,d,E,he,_,_,_,_,w'=>by
   simp only[nC]at E;injection E with E;subst E;cases xs <;> cases ys <;> simp[gA]at he;subst he;simp[Op.eqFields]
 | f::fs,l,xs,ys,o,us,vs,pu,pv,b,d,E,he,hx,hy,e1,e2,w'=>by
   simp only[nC]at E;split at E
   . rename_i hc
     simp only[Bool.and_eq_true,bne_iff_ne,ne_eq,beq_iff_eq]at hc;obtain⟨⟨hn,ho⟩,hi⟩:=hc;cases T:rA P f.type with
     | none=>simp[T]at E
     | some c=>
       cases Z:nC P (o+1) fs with
       | none=>simp[T,Z]at E
       | some l'=>
         simp[T,Z]at E;subst E;cases xs with
         | nil=>simp[gA]at he
         | cons x xs=>
           cases ys with
           | nil=>simp[gA]at he
           | cons y ys=>
             simp only[gA]at he;cases F:sC c x y with
             | none=>simp[F,Ke]at he
             | some b1=>
               cases I:gA l' xs ys with
               | none=>simp[F,I,Ke]at he
               | some b2=>
                 simp[F,I,Ke]at he;simp only[bF]at hx hy;obtain⟨u,J,rfl,hu,ab⟩:=hx;obtain⟨v,O,rfl,hv,aa⟩:=hy;have M:=P9 T hi;have p1:∀w':World,(part f.type (pu++u::J).toArray f.offset).run P w'=.ok u w':=fun w'=>lV (w:=w') M (by rw[ho,<-e1];simp)
                 have p2:∀w':World,(part f.type (pv++v::O).toArray f.offset).run P w'=.ok v w':=fun w'=>lV (w:=w') M (by rw[ho,<-e2];simp)
                 have q:=sT (d:=d) T F hu hv;have ih:=qN fs l' xs ys (o+1) J O (pu++[u]) (pv++[v]) b2 d Z I ab aa (by simp[e1]) (by simp[e2]) w';simp only[List.append_assoc,List.singleton_append]at ih;simp only[Op.eqFields,hn,ne_eq,not_false_eq_true,if_true,Sem.run_bind,p1,p2,q,Result.andThen_ok,Sem.run_ite];subst he;cases b1
                 . simp
                 . simp only[Bool.not_true,Bool.false_eq_true,if_false,Bool.true_and]
                   exact ih
   . simp at E
theorem Ae{e:TypeId}{c:Nat}(O:rA P e=some c)(hi:(P.info? e).isSome=true){d:Nat}:∀(m i:Nat) (xs ys:List AV) (us vs pu pv:List Value) (b:Bool),
   gA (List.replicate m c) xs ys=some b->bF S w xs us->bF S w ys vs->pu.length=i->pv.length=i->∀w':World,
   ((forIn (m := Sem) (List.range' i m) ((none, ()) : Option Bool × Unit) (fun i _ => do
         if !(<-Op.equalIn (d+1) e (<-part e (pu++us).toArray (i*1)) (<-part e (pv++vs).toArray (i*1)))then pure (ForInStep.done (some false,()))
         else pure (ForInStep.yield (none,())))).run P w').andThen (fun r w'=>Sem.run P (match r.1 with
       | some x=>pure x
       | none=>pure true:Sem Bool) w')=.ok b w'
 | 0,i,xs,ys,us,vs,pu,pv,b,he,_,_,_,_,w'=>by
   cases xs <;> cases ys <;> simp[gA]at he;subst he;simp
 | m+1,i,xs,ys,us,vs,pu,pv,b,he,hx,hy,e1,e2,w'=>by
   rw[List.replicate_succ]at he;cases xs with
   | nil=>simp[gA]at he
   | cons x xs=>
     cases ys with
     | nil=>simp[gA]at he
     | cons y ys=>
       simp only[gA]at he;cases E:sC c x y with
       | none=>simp[E,Ke]at he
       | some b1=>
         cases F:gA (List.replicate m c) xs ys with
         | none=>simp[E,F,Ke]at he
         | some b2=>
           simp[E,F,Ke]at he;simp only[bF]at hx hy;obtain⟨u,I,rfl,hu,Z⟩:=hx;obtain⟨v,M,rfl,hv,T⟩:=hy;have J:=P9 O hi;have p1:∀w':World,(part e (pu++u::I).toArray (i*1)).run P w'=.ok u w':=fun w'=>lV (w:=w') J (by rw[Nat.mul_one,<-e1];simp)
           have p2:∀w':World,(part e (pv++v::M).toArray (i*1)).run P w'=.ok v w':=fun w'=>lV (w:=w') J (by rw[Nat.mul_one,<-e2];simp)
           have q:=sT (d:=d) O E hu hv;have ih:=Ae O hi (d:=d) m (i+1) xs ys I M (pu++[u]) (pv++[v]) b2 F Z T (by simp[e1]) (by simp[e2]) w';simp only[List.append_assoc,List.singleton_append]at ih;simp only[List.range'_succ,List.forIn_cons,Sem.run_bind,p1,p2,q,Result.andThen_ok,Sem.run_ite,bind_assoc];subst he;cases b1
           . simp
           . simp only[Bool.not_true,Bool.false_eq_true,if_false,Bool.true_and,Sem.run_pure,Result.andThen_ok]
             exact ih
theorem BG{t:TypeId}{l:List Nat}(h:vG P t=some l){xs F:List AV}{b:Bool}(he:gA l xs F=some b){E vs:List Value}
   (hx:bF S w xs E) (Z:bF S w F vs) (d:Nat) (w':World):(Op.equalIn (d+2) t (.agg E.toArray) (.agg vs.toArray)).run P w'=.ok b w':=by
 unfold vG at h;split at h
 . rename_i fs M
   split at h
   . rename_i I
     have hf:P.fieldsOf t=fs:=by unfold Program.fieldsOf;rw[M]
     rw[run_equalIn_struct w' (d+1) t _ _ (by rw[hf];exact M) I.1,hf];simpa using qN fs.toList l xs F 0 E vs [] [] b d h he hx Z rfl rfl w'
   . simp at h
 . rename_i n e M
   split at h
   . rename_i I
     cases T:rA P e with
     | none=>simp[T]at h
     | some c=>
       simp[T]at h;subst h;cases J:P.info? e with
       | none=>simp[J]at I
       | some i=>
         have O:i.size=1:=by simpa[J]using I.1
         have u:=Ae (P:=P) (S:=S) (w:=w) T (by simp[J]) (d:=d) n 0 xs F E vs [] [] b he hx Z rfl rfl w';simp only[List.nil_append]at u;rw[Op.equalIn];simp only[Sem.run_bind,run_underlying M,Result.andThen_ok,sizeOf,typeInfo,run_program,J,Sem.run_pure,O];rw[Std.Legacy.Range.forIn_eq_forIn_range'];simp only[Std.Legacy.Range.size,Nat.sub_zero,Nat.add_one_sub_one,Nat.div_one];have e:∀(r:Result (Option Bool×Unit)) (f g:Option Bool×Unit->World->Result Bool),(∀a w,f a w=g a w)->r.andThen f=r.andThen g:=fun r f g h=>by cases r <;> simp[Result.andThen,h]
         exact(e _ _ _ (fun a w=>by rcases a with⟨a,_⟩;cases a <;> rfl)).trans u
   . simp at h
 . simp at h
theorem gZ(op:BinOp)(t:TypeId)(x y:Operand)(a b:Value)(h1:a≠.nilIface)(u:∀cs,a≠.agg cs)(w':World):(eqGuard op t x y a b).run P w'=.ok () w':=by
 cases op <;> simp only[eqGuard] <;> (try rfl) <;> cases a <;> first|rfl|(exact absurd rfl h1)|(exact absurd rfl (u _))
theorem OA{t:TypeId}{l:List Nat}(h:vG P t=some l):P.eqGuardType P.depth t=false:=by
 unfold vG at h;split at h
 . split at h
   . rename_i u;exact u.2
   . simp at h
 . split at h
   . rename_i u;exact u.2
   . simp at h
 . simp at h
theorem Ov{op:BinOp}{t:TypeId}{x y:AV}(h:fP P G op t x y K):
   ∃z,K z/\(gt G->∀u v,rep S w x u->rep S w y v->∀I F,uC P S H w z (do eqGuard op t I F u v;binOp op t u v)):=by
 unfold fP at h;split at h
 . rename_i k a k' b
   split at h
   . rename_i aa
     refine⟨_,h.2,fun O u v M J I F=>?_⟩;have T:=h.1 O;simp only[rep]at M J;subst M J;refine gN kC fun w'=>?_
     simp only[Sem.run_bind,gZ op t I F (.int k a) (.int k' b) (by simp) (by simp) w',Result.andThen_ok];have Z:¬b<0:=by omega
     cases op <;> simp only[uN,Bool.false_eq_true]at aa <;> simp[binOp,Op.shift,Z,shV]
   split at h
   . rename_i hk
     subst hk;have E:∀(z:Value),(∀w',(binOp op t (.int k a) (.int k b)).run P w'=.ok z w')->∀u v,rep S w (.v (.int k a)) u->rep S w (.v (.int k b)) v->∀I F,uC P S H w (.v z) (do eqGuard op t I F u v;binOp op t u v):=by
       intro z hz u v M J I F;simp only[rep]at M J;subst M J;refine gN kC fun w'=>?_
       simp only[Sem.run_bind,gZ op t I F (.int k a) (.int k b) (by simp) (by simp) w',Result.andThen_ok,hz]
     cases op <;> simp only at h <;> first
       | exact h.elim
       | (refine ⟨_, h, fun _ => E _ (fun w' => ?_)⟩
          first
            | (simp[binOp,Op.intArith,Op.intCmp];done)
            | (simp[binOp];rfl))
       | exact⟨_,h.2,fun O=>E _ (fun w'=>by simp[binOp,Op.intDiv,h.1 O])⟩
   . exact h.elim
 . rename_i a b
   have E:∀(z:Value),(∀w',(binOp op t (.string a) (.string b)).run P w'=.ok z w')->∀u v,rep S w (.v (.string a)) u->rep S w (.v (.string b)) v->∀I F,uC P S H w (.v z) (do eqGuard op t I F u v;binOp op t u v):=by
     intro z hz u v M J I F;simp only[rep]at M J;subst M J;refine gN kC fun w'=>?_
     simp only[Sem.run_bind,gZ op t I F (.string a) (.string b) (by simp) (by simp) w',Result.andThen_ok,hz]
   cases op <;> simp only at h <;> first
     | exact h.elim
     | exact⟨_,h,fun _=>E _ (fun w'=>by simp[binOp,Op.stringOp])⟩
     | exact ⟨_, h.2, fun O => E _ (fun w' => by
         have:=h.1 O;have h2:¬((a.size+b.size:Nat):Int)>IntKind.i64.max:=by omega
         simp only[binOp,Op.stringOp];rw[if_neg h2];rfl)⟩
 . rename_i a b
   split at h
   . rename_i T
     have ab:=Oc T;cases op <;> simp only at h <;> first
       | exact h.elim
       | (refine ⟨_, h, fun _ u v M J I F => ?_⟩
          simp only[rep]at M J;subst M J;refine gN kC fun w'=>?_
          simp only[Sem.run_bind,gZ _ t I F (.bool a) (.bool b) (by simp) (by simp) w',Result.andThen_ok];simp[binOp,run_equal_bool w' t a b ab])
   . exact h.elim
 . rename_i xs ys
   split at h
   . rename_i l hl
     split at h
     . rename_i b T
       cases op <;> simp only at h <;> first
         | exact h.elim
         | (refine ⟨_, h, fun _ u v M J I F => ?_⟩
            simp only[rep]at M J;obtain⟨us,rfl,ad,_⟩:=M;obtain⟨vs,rfl,ac,_⟩:=J;refine gN kC fun w'=>?_
            have q:=BG hl T ad ac 9998 w';simp only[Sem.run_bind,run_eqGuard_agg _ _ _ _ _ _ _ (OA hl),Result.andThen_ok]
            first
              | (rw[run_eql_struct,q];rfl)
              | (rw[run_neq_struct,q];rfl))
     . exact h.elim
   . exact h.elim
 . exact⟨_,h.2,fun O=>(h.1 O).elim⟩
end
end Go.Aw
end
section
namespace Go.Aw
open Go.RowKit
section
variable{P:Program}{S:Sg}{H:aG}{w:World}{G:Option Bool}{K:AV->Prop}
theorem gP{n:Nat}:∀{l:List (List AV)},cP n l↔∀cs∈l,cs.length=n
 | []=>by simp[cP]
 | x::r=>by simp[cP,gP (l:=r)]
theorem zQ{α:Type}{n:Nat}{f:α->List AV}(h:∀x,(f x).length=n)(l:List α):cP n (l.map f):=gP.2 fun cs u=>by
 obtain⟨x,_,rfl⟩:=List.mem_map.1 u;exact h x
theorem W0{b:Bool}{u:Value}(h:rep S w (.v (.bool b)) u):u=.bool b:=by simpa only[rep]using h
theorem rE{c:Bool}{x y:AV}{u v:Value}(E:c=true->rep S w x u)(F:c=false->rep S w y v):rep S w (sM c x y) (if c then u else v):=by
 unfold sM;split
 . cases c
   . have:=F rfl;simp only[rep]at this |-;subst this;simp
   . have:=E rfl;simp only[rep]at this |-;subst this;simp
 . cases c
   . have:=F rfl;simp only[rep]at this |-;subst this;simp
   . have:=E rfl;simp only[rep]at this |-;subst this;simp
 . cases c
   . have:=F rfl;simp only[rep]at this |-;subst this;simp
   . have:=E rfl;simp only[rep]at this |-;subst this;simp
 . cases c
   . simpa using F rfl
   . simpa using E rfl
theorem J3{c:Bool}{x y:AV}(h:yO G c x y K):
   ∃z,K z/\(gt G->∀u v,rep S w x u->rep S w y v->rep S w z (if c then u else v)):=by
 unfold yO at h;split at h
 . refine⟨_,h.2.2,fun J u v F E=>rE (fun I=>?_) (fun I=>?_)⟩
   . simp only[rep]at F;exact F.1 (h.1 J I)
   . simp only[rep]at E;exact E.1 (h.2.1 J I)
 . refine⟨_,h.2,fun J u v F E=>rE (fun I=>?_) (fun _=>E)⟩
   simp only[rep]at F;exact F.1 (h.1 J I)
 . refine⟨_,h.2,fun J u v F E=>rE (fun _=>F) (fun I=>?_)⟩
   simp only[rep]at E;exact E.1 (h.1 J I)
 . exact⟨_,h,fun _ u v F E=>rE (fun _=>F) (fun _=>E)⟩
theorem FG{v:Value}(h:v.oneCell'=true):v.cells=#[v]:=by
 cases v <;> first|rfl|simp[Value.oneCell']at h
theorem tM{x:AV}{K:List AV->Prop}(h:kS x K):∃cs,K cs/\∀u,rep S w x u->∃l:List Value,u.cells=l.toArray/\bF S w cs l/\(∀v∈l,v.oneCell'=true):=by
 have F:∀(x:AV) (u:Value),rep S w x u->u.oneCell'=true->∃l:List Value,u.cells=l.toArray/\bF S w [x] l/\(∀v∈l,v.oneCell'=true):=fun x u E h1=>
   ⟨[u],FG h1,by simp only[bF];exact⟨u,[],rfl,E,rfl⟩,by simpa using h1⟩
 unfold kS at h;split at h
 . refine⟨_,h,fun u E=>?_⟩
   simp only[rep]at E;obtain⟨l,rfl,h1,I⟩:=E;exact⟨l,rfl,h1,I⟩
 . refine⟨_,h.2,fun u E=>F _ u E ?_⟩
   simp only[rep]at E;subst E;exact h.1
 . refine⟨_,h,fun u E=>F _ u E ?_⟩
   simp only[rep]at E;obtain⟨_,_,_,rfl,_⟩:=E;rfl
 . refine⟨_,h,fun u E=>F _ u E ?_⟩
   simp only[rep]at E;obtain⟨_,_,rfl,_⟩:=E;rfl
 . refine⟨_,h,fun u E=>F _ u E ?_⟩
   simp only[rep]at E;obtain⟨_,_,_,_,_,rfl⟩:=E;rfl
 . refine⟨_,h,fun u E=>F _ u E ?_⟩
   simp only[rep]at E;obtain⟨_,_,_,_,_,rfl⟩:=E;rfl
 . exact h.elim
theorem BS(v:Value):rep S w (nY v) v:=by
 unfold nY;split
 . unfold rep
   exact⟨none,0,0,rfl,rfl,Nat.le_refl _,Nat.zero_le _,.inl rfl⟩
 . exact kC
theorem kM:∀(l:List Value),bF S w (l.map nY) l
 | []=>by simp[bF]
 | v::r=>by simp only[List.map_cons,bF];exact⟨v,r,rfl,BS v,kM r⟩
theorem Bc:∀(l:List Value) (i:Nat) (A:Array Value) (o:Nat),o+i+l.length<=A.size ->
   ((l.zipIdx i).foldl (fun cs (p:Value×Nat)=>cs.setIfInBounds (o+p.2) p.1) A).toList=A.toList.take (o+i)++l++A.toList.drop (o+i+l.length)
 | [],i,A,o,h=>by simp
 | v::r,i,A,o,h=>by
   simp only[List.zipIdx_cons,List.foldl_cons,List.length_cons]at h |-;rw[Bc r (i+1) _ o (by simp;omega)];have F:(A.setIfInBounds (o+i) v).toList=A.toList.set (o+i) v:=by simp
   rw[F,show o+(i+1)=o+i+1 by omega,List.take_set,List.drop_set_of_lt (by omega)];have u:o+i<A.toList.length:=by simp;omega
   have E:(List.take (o+i+1) A.toList).set (o+i) v=List.take (o+i) A.toList++[v]:=by
     rw[List.take_succ_eq_append_getElem u,List.set_append_right _ _ (by simp;omega)];have:(List.take (o+i) A.toList).length=o+i:=by rw[List.length_take];omega
     rw[this,Nat.sub_self];rfl
   rw[E];simp only[List.append_assoc,List.singleton_append,List.cons_append,List.nil_append];rw[show o+i+1+r.length=o+i+(r.length+1)by omega]
theorem wR{places:List (Nat×Nat)}{place:Nat->Option (Nat×Nat)}(aa:∀i on,places[i]?=some on->place i=some on):∀(E:List (Nat×List AV)) (vs:List (Nat×Value)) (cs:List AV) (A:Array Value) (cs':List AV),
   oL places cs E=some cs'->bF S w cs A.toList->(∀v∈A.toList,v.oneCell'=true) ->
   E.length=vs.length->(∀(j i:Nat) (c:List AV),E[j]?=some (i,c)->∃(v:Value) (l:List Value),vs[j]?=some (i,v)/\v.cells=List.toArray l/\bF S w c l/\∀u∈l,u.oneCell'=true) ->
   ∃Z,Instr.fill place A vs=some Z/\bF S w cs' Z.toList/\(∀v∈Z.toList,v.oneCell'=true)
 | [],vs,cs,A,cs',F,hr,h1,hl,_=>by
   simp only[oL]at F;injection F with F;subst F;have:vs=[]:=List.eq_nil_of_length_eq_zero (by simpa using hl.symm);subst this;exact⟨A,rfl,hr,h1⟩
 | (i,c)::rest,vs,cs,A,cs',F,hr,h1,hl,hv=>by
   obtain⟨v,l,e1,e2,e3,e4⟩:=hv 0 i c (by simp);cases vs with
   | nil=>simp at e1
   | cons q vs=>
     simp at e1;subst e1;simp only[oL]at F;cases hp:places[i]? with
     | none=>simp[hp]at F
     | some on=>
       obtain⟨off,n⟩:=on;simp only[hp]at F;split at F
       . rename_i hc
         have M:l.length=n:=by rw[<-hc.1];exact fV _ _ e3
         have hA:A.toList.length=cs.length:=fV _ _ hr;have O:A.size=cs.length:=by simpa using hA
         have hz:=Bc l 0 A off (by rw[M,O];have:=hc.2;omega);simp only[Nat.add_zero]at hz;have I:bF S w (cs.take off++c++cs.drop (off+n)) (A.toList.take off++l++A.toList.drop (off+l.length)):=by
           rw[M];exact cT _ _ _ _ (cT _ _ _ _ (pD _ _ _ hr) e3) (tD _ _ _ hr)
         have T:∀u∈A.toList.take off++l++A.toList.drop (off+l.length),u.oneCell'=true:=by
           intro u J;simp only[List.mem_append]at J;rcases J with(J|J)|J
           . exact h1 u (List.mem_of_mem_take J)
           . exact e4 u J
           . exact h1 u (List.mem_of_mem_drop J)
         rw[<-hz]at I T;obtain⟨Z,f1,f2,f3⟩:=wR aa rest vs _ _ cs' F I T (by simpa using hl) (fun j i c hj=>by simpa using hv (j+1) i c (by simpa using hj));refine⟨Z,?_,f2,f3⟩;simp only[Instr.fill,aa i _ hp,e2,List.size_toArray,M];rw[if_neg (by have:=hc.2;simp[O];omega)];rw[<-f1]
         congr 1
         rw[<-Array.foldl_toList];simp
       . simp at F
theorem lK{t:TypeId}{z:List AV}(h:dC P t=some z):∃i v,P.info? t=some i/\i.zero=some v/\z=v.cells.toList.map nY/\v.cells.size=i.size/\i.size≠0/\(∀u∈v.cells.toList,u.oneCell'=true):=by
 unfold dC at h;cases E:P.info? t with
 | none=>simp[E]at h
 | some i=>
   cases F:i.zero with
   | none=>simp[E,F]at h
   | some v=>
     simp only[E,F]at h;split at h
     . rename_i I
       injection h with h;exact⟨i,v,rfl,F,h.symm,I.1,I.2.1,fun u J=>List.all_eq_true.1 I.2.2 u J⟩
     . simp at h
theorem aR{x:AV}{k:AV->Prop}(h:bP G x k):∃y,k y/\(gt G->∀u,rep S w x u->rep S w y u):=by
 unfold bP at h;split at h
 . refine⟨_,h.2,fun F u E=>?_⟩
   simp only[rep]at E;refine E.1 ?_;have:=h.1;cases G with
   | none=>exact this
   | some b=>exact this F
 . exact⟨_,h,fun _ u E=>E⟩
theorem RT{op:UnOp}{x:AV}(h:aun op x K):∃z,K z/\∀u,rep S w x u->uC P S H w z (Op.unary op u):=by
 unfold aun at h;split at h
 . refine⟨_,h,fun u E=>?_⟩
   simp only[rep]at E;subst E;exact gN kC fun w'=>by simp[Op.unary]
 . refine⟨_,h,fun u E=>?_⟩
   simp only[rep]at E;subst E;exact gN kC fun w'=>by simp[Op.unary,Op.intArith]
 . exact h.elim
theorem Hj{t:TypeId}{k:IntKind}(h:Ew P t=some k):P.underlying t=some (.int k):=by
 unfold Ew at h;split at h
 . rename_i u;injection h with h;subst h;exact u
 . simp at h
theorem JM{t:TypeId}(h:Br P t=true):∃e,P.underlying t=some (.slice e)/\P.underlying e=some (.int .u8):=by
 unfold Br at h;split at h
 . rename_i e u
   split at h
   . rename_i E;exact⟨e,u,E⟩
   . simp at h
 . simp at h
theorem Ed:∀(es:List (List AV)) (ns:List Int) (o:Nat) {b sz:Nat},oI es=some ns->fY S w b sz o es->0<sz->ns.length=es.length/\∀j n,ns[j]?=some n->w.cell? ⟨b,o+j,none⟩=some (.int .u8 n)
 | [],ns,o,b,sz,h,_,_=>by
   simp only[oI]at h;injection h with h;subst h;simp
 | es::r,ns,o,b,sz,h,he,hs=>by
   unfold oI at h;split at h
   . rename_i e;simp at e
   . rename_i n r' e
     injection e with M T;subst M T;cases I:oI r with
     | none=>simp[I]at h
     | some ns'=>
       simp[I]at h;subst h;simp only[fY,cE]at he;obtain⟨h1,⟨⟨u,h2,_,J⟩,_⟩,Z⟩:=he;simp only[rep]at J;subst J;have F:sz=1:=by simpa using h1.symm
       subst F;obtain⟨O,i2⟩:=Ed r ns' (o+1) I Z hs;refine⟨by simp[O],fun j m E=>?_⟩;cases j with
       | zero=>simp at E;subst E;simpa using h2
       | succ j=>
         rw[show o+(j+1)=o+1+j by omega];exact i2 j m (by simpa using E)
   . simp at h
theorem Jl{src dst:TypeId}{x:AV}(h:uZ P src dst x K):∃z,K z/\∀u,rep S w x u->uC P S H w z (convert src dst u):=by
 unfold uZ at h;split at h
 . split at h
   . rename_i k k' hk ab
     refine⟨_,h,fun u J=>?_⟩;simp only[rep]at J;subst J;refine gN kC fun w'=>?_
     simp[convert,run_underlying (Hj hk),run_underlying (Hj ab),Conv.intToInt]
   . exact h.elim
 . split at h
   . rename_i T
     refine⟨_,h,fun u J=>?_⟩;simp only[rep]at J;subst J;refine gN kC fun w'=>?_
     simp[convert,run_underlying (eP T.1),run_underlying (eP T.2)]
   . exact h.elim
 . rename_i es
   split at h
   . rename_i T
     split at h
     . rename_i ns M
       refine⟨_,h,fun u J=>?_⟩;obtain⟨e,he,Z⟩:=JM T.1;have hd:=eP T.2;simp only[rep]at J;obtain⟨ad,n,c,rfl,h1,_,_,E⟩:=J;refine⟨_,kC,fun w' ha=>?_⟩;have F:es=[]->ns=[]:=fun e=>by subst e;simp[oI]at M;exact M
       cases ad with
       | none=>
         have:es=[]:=by rcases E with E|⟨b,o,sz,E,_⟩;exact E;simp at E
         rw[run_convert_bytes_nil w' src e he Z n c dst hd,F this];rfl
       | some a=>
         have I:(loadCells a n).run P w'=.ok (ns.map (Value.int .u8)).toArray w':=by
           rcases E with E|⟨b,o,sz,E,hb,aa,O⟩
           . have hn:n=0:=by rw[<-h1,E];rfl
             rw[hn,F E];simp[loadCells,loadCellsFrom]
           . injection E with E
             subst E;obtain⟨i1,i2⟩:=Ed es ns o M O aa;have hn:n=(ns.map (Value.int .u8)).length:=by rw[List.length_map,i1,h1]
             rw[hn];refine run_loadCells_list w' _ _ fun j v hj=>?_
             rw[Addr.add_lit];simp at hj;obtain⟨m,hm,rfl⟩:=hj;exact ha.cell hb (i2 j m hm)
         rw[run_convert_bytes_string w' src dst e _ n c he Z hd,run_bytesToString w' a n c ns I,foldl_push_bytes]
         congr 3
         simp[ByteArray.empty,ByteArray.emptyWithCapacity];rfl
     . exact h.elim
   . exact h.elim
 . exact h.elim
theorem Du{t:TypeId}{e sz u:Nat}(I:bR P t=some (e,sz,u)):P.underlying t=some (.slice (P.elem t))/\∀w:World,(sizeOf (P.elem t)).run P w=.ok sz w:=by
 obtain⟨i,z,F,J,E,_⟩:=gR I;have:P.elem t=e:=by unfold Program.elem;rw[F]
 rw[this];exact⟨F,fun w=>by simp[sizeOf,typeInfo,J,E]⟩
theorem Cr{t:TypeId}{x a b:AV}(h:CR P G t x a b K):
   ∃z,K z/\(gt G->∀(u F I:Value),rep S w x u->rep S w a F->rep S w b I->uC P S H w z (Instr.sliceAt t u none (some F) (some I))):=by
 unfold CR at h;split at h
 . rename_i es ka a kb b
   split at h
   . rename_i e he
     refine⟨_,h.2,fun hg u F I hu h1 T=>?_⟩;obtain⟨e1,e2⟩:=h.1 hg;simp only[rep]at hu h1 T;subst h1 T e1 e2;obtain⟨M,n,c,rfl,rfl,hc,hm,O⟩:=hu;obtain⟨J,Z⟩:=Du (P:=P) (t:=t) (by rw[he]);refine⟨.slice M es.length es.length,?_,fun w' _=>?_⟩
     . simp only[rep]
       exact⟨M,_,rfl,rfl,by omega,O⟩
     . rw[run_sliceAt_slice w' t _ _ _ _ J]
       have E:(es.length:Int)<=(c:Int):=by exact_mod_cast hc
       rcases O with rfl|⟨bb,o,sz,rfl,_⟩
       . simp[Instr.slice,run_underlying J,Instr.sliceBounds,Instr.sliceBound,asIntOf,Z]
       . simp[Instr.slice,run_underlying J,Instr.sliceBounds,Instr.sliceBound,asIntOf,Z,E,Addr.add]
         intro aa;omega
   . exact h.elim
 . exact h.elim
theorem EY{es:List (List AV)}{ad:Option Addr}{n c sz a b:Nat}(hu:rep S w (.sl es) (.slice ad n c))(I:cP sz es)(ab:a<=b)(hb:b<=es.length):
   rep S w (.sl ((es.take b).drop a)) (sliced ad a b c sz):=by
 simp only[rep]at hu |-;obtain⟨ac,n',c',e,h1,h2,h3,h4⟩:=hu;injection e with J T e3;subst J T e3;refine⟨_,_,_,rfl,by simp;omega,by omega,by omega,?_⟩;by_cases u:(es.take b).drop a=[]
 . exact .inl u
 . refine .inr ?_
   rcases h4 with h4|⟨bl,o,F,rfl,M,hs,E⟩
   . subst h4;simp at u
   . have O : 0 < es.length := by
       rcases Nat.eq_zero_or_pos es.length with h0|h0
       . have:=List.eq_nil_of_length_eq_zero h0;subst this;simp at u
       . exact h0
     have Z:F=sz:=by
       have J:=(pC es o 0 E O).1;have T:=gP.1 I (es.getD 0 []) (by simp only[List.getD,List.getElem?_eq_getElem O,Option.getD_some];exact List.getElem_mem O);rw[<-J,T]
     subst Z;have aa:a<b:=by
       rcases Nat.lt_or_ge a b with h|h
       . exact h
       . exact absurd (List.drop_eq_nil_of_le (by simp;omega)) u
     refine⟨bl,o+a*F,F,?_,M,hs,?_⟩
     . split
       . omega
       . simp[Addr.add_lit]
     . exact zX _ o a (tJ es o b E)
theorem It{t:TypeId}{x:AV}{lo hi:Option AV}(h:kT P G t x lo hi K):
   ∃z,K z/\(gt G->∀(u:Value) (vl vh:Option Value),rep S w x u->(∀y,lo=some y->∃v,vl=some v/\rep S w y v)->(lo=none->vl=none)->(∀y,hi=some y->∃v,vh=some v/\rep S w y v)->(hi=none->vh=none) ->
     uC P S H w z (Instr.sliceAt t u vl vh none)):=by
 unfold kT at h;split at h
 . rename_i es ka a kb b
   split at h
   . rename_i e sz aa he
     refine⟨_,h.2,fun M u vl vh I T _ O _=>?_⟩;obtain⟨⟨h0,h1,h2⟩,h3⟩:=h.1 M;obtain⟨v,rfl,F⟩:=T _ rfl;obtain⟨v',rfl,J⟩:=O _ rfl;simp only[rep]at F J;subst F J;have Z:=I;simp only[rep]at Z;obtain⟨ad,n,c,rfl,e1,e2,_⟩:=Z;obtain⟨E,hz⟩:=Du he;have:=EY (a:=a.toNat) (b:=b.toNat) I h3 (by omega) (by omega);refine⟨_,this,fun w' _=>?_⟩;rw[run_sliceAt_slice w' t _ _ _ _ E,run_slice_lh w' t ad n c E ka kb a b h0 h1 (by omega),hz];rfl
   . exact h.elim
 . rename_i es ka a
   split at h
   . rename_i e sz aa he
     refine⟨_,h.2,fun M u vl vh I T _ _ O=>?_⟩;obtain⟨⟨h0,h1⟩,h3⟩:=h.1 M;obtain⟨v,rfl,F⟩:=T _ rfl;have:=O rfl;subst this;simp only[rep]at F;subst F;have Z:=I;simp only[rep]at Z;obtain⟨ad,n,c,rfl,e1,e2,_⟩:=Z;obtain⟨E,hz⟩:=Du he;have:=EY (a:=a.toNat) (b:=es.length) I h3 (by omega) (by omega);rw[List.take_length,e1]at this;refine⟨_,this,fun w' _=>?_⟩;rw[run_sliceAt_slice w' t _ _ _ _ E,run_slice_l w' t ad n c E ka a h0 (by omega),hz];rfl
   . exact h.elim
 . rename_i es kb b
   split at h
   . rename_i e he
     refine⟨_,h.2,fun M u vl vh I _ T O _=>?_⟩;obtain⟨h0,h1⟩:=h.1 M;obtain⟨v,rfl,F⟩:=O _ rfl;have:=T rfl;subst this;simp only[rep]at F;subst F;obtain⟨E,hz⟩:=Du he;simp only[rep]at I;obtain⟨ad,n,c,rfl,e1,e2,e3,e4⟩:=I;refine⟨sliced ad 0 b.toNat c e.2.1,?_,fun w' _=>?_⟩
     . simp only[rep]
       refine⟨ad,b.toNat,c,?_,by simp;omega,by omega,e3,?_⟩
       . simp only[sliced,Nat.sub_zero]
         congr 1
         split
         . rfl
         . cases ad <;> simp[Addr.add_zero']
       . rcases e4 with e4|⟨bl,o,ac,rfl,ae,af,ab⟩
         . left;rw[e4];simp
         . exact .inr ⟨bl,o,ac,rfl,ae,af,tJ es o _ ab⟩
     . rw[run_sliceAt_slice w' t _ _ _ _ E,run_slice_h w' t ad n c E kb b h0 (by omega),hz]
       rfl
   . exact h.elim
 . rename_i s ka a kb b
   split at h
   . rename_i E
     refine⟨_,h.2,fun M u vl vh I T _ O _=>?_⟩;obtain⟨h0,h1,h2⟩:=h.1 M;obtain⟨v,rfl,F⟩:=T _ rfl;obtain⟨v',rfl,J⟩:=O _ rfl;simp only[rep]at I F J;subst I F J;refine gN kC fun w'=>?_
     rw[run_sliceAt_string w' t _ _ _ _ (eP E),run_slice_string w' t s ka kb a b (eP E) h0 h1 h2]
   . exact h.elim
 . rename_i s ka a
   split at h
   . rename_i E
     refine⟨_,h.2,fun M u vl vh I T _ _ O=>?_⟩;obtain⟨h0,h1⟩:=h.1 M;obtain⟨v,rfl,F⟩:=T _ rfl;have:=O rfl;subst this;simp only[rep]at I F;subst I F;refine gN kC fun w'=>?_
     rw[run_sliceAt_string w' t _ _ _ _ (eP E),run_slice_string_l w' t s (eP E) ka a h0 h1]
   . exact h.elim
 . rename_i s kb b
   split at h
   . rename_i E
     refine⟨_,h.2,fun M u vl vh I _ T O _=>?_⟩;obtain⟨h0,h1⟩:=h.1 M;obtain⟨v,rfl,F⟩:=O _ rfl;have:=T rfl;subst this;simp only[rep]at I F;subst I F;refine gN kC fun w'=>?_
     rw[run_sliceAt_string w' t _ _ _ _ (eP E),run_slice_string_h w' t s (eP E) kb b h0 h1]
   . exact h.elim
 . exact h.elim
theorem Pn{k:Nat}{r:Row}(hH:xF S w H)(hk:H k=some r){a b c:Nat}{F:Option Addr}{n:Nat}(M:S.loc k=.slice F n c)(T:a<=b)(hb:b<=r.es.length):n=r.es.length/\n<=c/\rep S w (.oz k a b) (sliced F a b c r.sz):=by
 have Z:=hH k r hk;obtain⟨xs,ho,_,_⟩:=Z.sl M;have u:(F=none/\n=0/\c=0/\r.es.length=0)\/∃g,F=some ⟨g,0,none⟩/\n=r.es.length/\n<=c:=by
   rcases ho.2 with⟨J,O⟩|⟨g,cap,cur,J,_,_,aa,_⟩
   . rw[M]at J
     injection J with h1 E I;exact .inl ⟨h1,E,I,O⟩
   . rw[M]at J
     injection J with h1 E I;subst I;exact .inr ⟨g,h1,E,by omega⟩
 have O:n=r.es.length/\n<=c:=by
   rcases u with⟨_,h1,E,I⟩|⟨g,_,h1,E⟩ <;> omega
 refine⟨O.1,O.2,?_⟩;simp only[rep,sliced];refine⟨Z.lt,F,n,c,_,_,M,rfl,T,by omega,fun ab=>?_,fun ha=>?_⟩
 . rcases u with⟨_,h1,E,I⟩|⟨g,h0,h1,E⟩
   . omega
   . subst h0
     refine⟨g,rfl,?_⟩;rw[if_neg (by omega)];simp[Addr.add_lit,Z.sz]
 . subst ha
   rcases u with⟨h0,_,_,_⟩|⟨g,h0,_,_⟩
   . subst h0;simp
   . subst h0;simp[Addr.add_lit]
theorem oZ{H':aG}{t:TypeId}{x:AV}{lo hi:Option AV}(hH:xF S w H)(h:asl P G H t x lo hi K):
   ∃z,K z/\(gt G->∀(u:Value) (M O:Option Value),rep S w x u->(∀y,lo=some y->∃v,M=some v/\rep S w y v)->(lo=none->M=none)->(∀y,hi=some y->∃v,O=some v/\rep S w y v)->(hi=none->O=none) ->
     uC P S H' w z (Instr.sliceAt t u M O none)):=by
 unfold asl at h;split at h
 . rename_i k
   split at h
   . rename_i r e sz aa hk he
     obtain⟨J,hz⟩:=Du he;split at h
     . rename_i ka a kb b
       refine⟨_,h.2,fun hg u M O F hl _ hh _=>?_⟩;obtain⟨⟨h0,h1,h2⟩,h3⟩:=h.1 hg;obtain⟨v,rfl,I⟩:=hl _ rfl;obtain⟨v',rfl,T⟩:=hh _ rfl;simp only[rep]at I T F;subst I T;obtain⟨_,rfl,Z,n,c,E⟩:=F;obtain⟨q1,q2,q3⟩:=Pn (a:=a.toNat) (b:=b.toNat) hH hk E (by omega) (by omega);rw[E];refine⟨_,q3,fun w' _=>?_⟩;rw[run_sliceAt_slice w' t _ _ _ _ J,run_slice_lh w' t Z n c J ka kb a b h0 h1 (by omega),hz,h3];rfl
     . rename_i ka a
       refine⟨_,h.2,fun hg u M O F hl _ _ hh=>?_⟩;obtain⟨⟨h0,h1⟩,h3⟩:=h.1 hg;obtain⟨v,rfl,I⟩:=hl _ rfl;have:=hh rfl;subst this;simp only[rep]at I F;subst I;obtain⟨_,rfl,Z,n,c,E⟩:=F;obtain⟨q1,q2,q3⟩:=Pn (a:=a.toNat) (b:=r.es.length) hH hk E (by omega) (by omega);rw[E];refine⟨_,q3,fun w' _=>?_⟩;rw[run_sliceAt_slice w' t _ _ _ _ J,run_slice_l w' t Z n c J ka a h0 (by omega),hz,h3,q1];rfl
     . rename_i kb b
       refine⟨_,h.2,fun hg u M O F _ hl hh _=>?_⟩;obtain⟨⟨h0,h1⟩,h3⟩:=h.1 hg;obtain⟨v,rfl,I⟩:=hh _ rfl;have:=hl rfl;subst this;simp only[rep]at I F;subst I;obtain⟨_,rfl,Z,n,c,E⟩:=F;obtain⟨q1,q2,q3⟩:=Pn (a:=0) (b:=b.toNat) hH hk E (by omega) (by omega);rw[E];refine⟨_,q3,fun w' _=>?_⟩;rw[run_sliceAt_slice w' t _ _ _ _ J,run_slice_h w' t Z n c J kb b h0 (by omega),hz,h3];rfl
     . exact h.elim
   . exact h.elim
 . exact It h
theorem IG{t:TypeId}{x i:AV}(h:tR P G t x i K):
   ∃z,K z/\(gt G->∀u v,rep S w x u->rep S w i v->uC P S H w z (Instr.index t u v)):=by
 unfold tR at h;split at h
 . rename_i s k n
   split at h
   . rename_i hs
     refine⟨_,h.2,fun I u v J F=>?_⟩;obtain⟨h0,h1⟩:=h.1 I;simp only[rep]at J F;subst J F;refine gN kC fun w'=>?_
     rw[run_index_string w' t s k n (eP hs),dif_pos ⟨h0,h1⟩];have T:n.toNat<s.data.size:=by have:s.size=s.data.size:=rfl;omega
     congr 4
     rw[Array.getD,dif_pos T];rfl
   . exact h.elim
 . rename_i cs k n
   split at h
   . rename_i m s l Z
     obtain⟨e,aa,J,hi,rfl,_,hl⟩:=Hk Z;obtain⟨z,hz,hd⟩:=Ce (S:=S) (H:=H) (w:=w) hl h.2;refine⟨z,hz,fun I u v O F=>?_⟩;obtain⟨h0,h1⟩:=h.1 I;obtain⟨cs',rfl,M⟩:=hd I u O;simp only[rep]at F;subst F;obtain⟨r,hr,E⟩:=M;refine⟨r,hr,fun w' hw=>?_⟩;have:=E w' hw;simp[Instr.index,asIntOf,run_underlying J,h0,h1,sizeOf,typeInfo,hi];simpa using this
   . exact h.elim
 . exact h.elim
def opB(n:Nat):Operand->Bool
 | .tmp t=>decide (t<n)
 | _=>true
def FR(S:Sg)(w:World)(ρ:Env)(a:Act):Prop:=∀t,t<a.tmps.size->rep S w (ρ t) (a.tmps.getD t undef)
theorem cC{ρ:Env}{a:Act}(E:FR S w ρ a){x:Operand}(u:opB a.tmps.size x=true):rep S w (aev ρ x) (a.eval x):=by
 cases x with
 | tmp t=>simp only[opB,decide_eq_true_eq]at u;exact E t u
 | const v=>exact BS v
 | global g=>trivial
 | func f=>exact kC
theorem NP{ρ:Env}{a:Act}(E:FR S w ρ a){x:Operand}(u:opB a.tmps.size x=true):rep S w (HA ρ x) (a.eval x):=by
 cases x with
 | const v=>exact kC
 | tmp t=>exact cC E u
 | global g=>exact cC E u
 | func f=>exact cC E u
theorem Cs{ρ:Env}{a:Act}(u:FR S w ρ a):∀(l:List Operand),(∀x∈l,opB a.tmps.size x=true)->bF S w (l.map (HA ρ)) (l.map a.eval)
 | [],_=>rfl
 | x::l,h=>by
   simp only[List.map_cons,bF];exact⟨_,_,rfl,NP u (h x (by simp)),Cs u l fun y E=>h y (by simp[E])⟩
theorem mB{ρ:Env}{a:Act}(O:FR S w ρ a):∀(l:List (Nat×Operand)) {K:List (Nat×List AV)->Prop},(∀p∈l,opB a.tmps.size p.2=true)->nS G ρ l K ->
   ∃E,K E/\(gt G->E.length=(l.map fun p=>(p.1,a.eval p.2)).length /\
     ∀(j i:Nat) (c:List AV),E[j]?=some (i,c)->∃(v:Value) (l':List Value),(l.map fun p=>(p.1,a.eval p.2))[j]?=some (i,v)/\v.cells=List.toArray l'/\bF S w c l'/\∀u∈l',u.oneCell'=true)
 | [],K,_,h=>⟨[],h,fun _=>⟨rfl,by simp⟩⟩
 | (i,x)::rest,K,hb,h=>by
   simp only[nS]at h;obtain⟨y,h,T⟩:=aR (S:=S) (w:=w) h;obtain⟨cs,h,J⟩:=tM (S:=S) (w:=w) h;obtain⟨E,hK,I⟩:=mB O rest (fun p hp=>hb p (by simp[hp])) h;refine⟨_,hK,fun M=>?_⟩;obtain⟨Z,e2⟩:=I M;refine⟨by simpa using Z,fun j k c F=>?_⟩;cases j with
   | zero=>
     simp at F;obtain⟨rfl,rfl⟩:=F;obtain⟨l',f1,f2,f3⟩:=J _ (T M _ (cC O (hb (i,x) (by simp))));exact⟨_,l',by simp,f1,f2,f3⟩
   | succ j=>simpa using e2 j k c (by simpa using F)
theorem rY{t:TypeId}{i:TypeInfo}{O:Value}{z:List AV}{pl:List (Nat×Nat)}(hi:P.info? t=some i)(M:i.zero=some O)(h1:∀u∈O.cells.toList,u.oneCell'=true)(hr:bF S w z O.cells.toList)(I:dN P t=some pl){E:List (Nat×List AV)}{vs:List (Nat×Value)}{cs:List AV}
   (hf:oL pl z E=some cs) (hl:E.length=vs.length)
   (hv:∀(j i:Nat) (c:List AV),E[j]?=some (i,c)->∃(v:Value) (l:List Value),vs[j]?=some (i,v)/\v.cells=List.toArray l/\bF S w c l/\∀u∈l,u.oneCell'=true):
   ∃F,P.built t vs=some F/\bF S w cs F.toList/\∀v∈F.toList,v.oneCell'=true:=by
 unfold dN at I;split at I
 . rename_i fs hu
   obtain⟨F,f1,T,Z⟩:=wR (place:=fun i=>pl.toArray[i]?) (fun i on h=>by simpa using h) E vs _ O.cells cs hf hr h1 hl hv;refine⟨F,?_,T,Z⟩;unfold Program.built;simp only[hi,hu,M,I];exact f1
 . rename_i n e hu
   cases J:P.info? e with
   | none=>simp[J]at I
   | some ie=>
     simp[J]at I;obtain⟨F,f1,T,Z⟩:=wR (place:=fun i=>some (i*ie.size,ie.size)) (fun i on h=>by
       rw[<-I]at h;simp only[List.getElem?_map,Option.map_eq_some_iff]at h;obtain⟨j,h,rfl⟩:=h;have aa:i<n:=by
         rcases Nat.lt_or_ge i n with h'|h'
         . exact h'
         . simp[List.getElem?_eq_none,h']at h
       simp[aa]at h;rw[h]) E vs _ O.cells cs hf hr h1 hl hv
     refine⟨F,?_,T,Z⟩;unfold Program.built;simp only[hi,hu,M,J];exact f1
 . simp at I
theorem Ia{t:TypeId}{z:List AV}{J:List (Nat×Nat)}(Z:dC P t=some z)(hp:dN P t=some J){E:List (Nat×List AV)}{vs:List (Nat×Value)}{cs:List AV}
   (M:oL J z E=some cs) (O:E.length=vs.length)
   (hv:∀(j i:Nat) (c:List AV),E[j]?=some (i,c)->∃(v:Value) (l:List Value),vs[j]?=some (i,v)/\v.cells=List.toArray l/\bF S w c l/\∀u∈l,u.oneCell'=true):
   ∃I,P.built t vs=some I/\bF S w cs I.toList/\∀v∈I.toList,v.oneCell'=true:=by
 obtain⟨i,T,hi,F,rfl,aa,_,h1⟩:=lK Z;exact rY hi F h1 (kM T.cells.toList) hp M O hv
end
end Go.Aw
end
section
namespace Go.Aw
open Go.RowKit
section
variable{P:Program}{S:Sg}{H:aG}{w:World}{G:Option Bool}{K:AV->Prop}
theorem SG{a b:ByteArray}(h:a.toList=b.toList):a=b:=by
 rw[ByteArray.toList_eq,ByteArray.toList_eq]at h;exact ByteArray.ext (Array.toList_inj.1 h)
theorem TD{t:TypeId}{u:TypeId×TypeId}(h:N0 P t=some u):P.underlying t=some (.map u.1 u.2):=by
 unfold N0 at h;split at h
 . rename_i k e E
   injection h with h;subst h;exact E
 . simp at h
theorem G1{t:TypeId}{z:AV}(h:GY P t=some z):∃v,(∀w':World,(zeroValue t).run P w'=.ok v w')/\∀S w,rep S w z v:=by
 unfold GY at h;split at h
 . rename_i i I
   split at h
   . rename_i cs F
     split at h
     . rename_i E
       injection h with h;subst h;refine⟨.agg cs,fun w'=>by simp[zeroValue,typeInfo,I,F],fun S w=>?_⟩;simp only[rep];refine⟨cs.toList,by simp,kM _,fun u J=>List.all_eq_true.1 E u J⟩
     . simp at h
   . rename_i v _ F
     split at h
     . injection h with h
       subst h;exact⟨v,fun w'=>by simp[zeroValue,typeInfo,I,F],fun S w=>BS _⟩
     . simp at h
   . simp at h
 . simp at h
theorem Gz{kt:TypeId}{x y:AV}{b:Bool}(h:oB P kt x y=some b){u v:Value}(hu:rep S w x u)(hv:rep S w y v):
   ∃d,P.underlying kt=some d/\Instr.sameNow d u v=some b/\(b=true->u=v/\∀n,Instr.sameBits (n+1) v u=true):=by
 unfold oB at h;split at h
 . rename_i a c
   simp only[rep]at hu hv;subst hu hv;split at h
   . rename_i k Z
     unfold sC at h;split at h
     . rename_i k1 a1 k2 F I J
       cases I;cases J;split at h
       . rename_i T
         subst T;rcases kI Z with⟨_,k',E⟩|⟨h0,_⟩|⟨h0,_⟩
         . injection h with h
           subst h;refine⟨_,E,by simp[Instr.sameNow],fun M=>?_⟩;have:a1=F:=by simpa using M
           subst this;exact⟨rfl,fun n=>by simp[Instr.sameBits]⟩
         . simp at h0
         . simp at h0
       . simp at h
     . rename_i a1 F I J
       cases I;cases J;rcases kI Z with⟨h0,_⟩|⟨_,E⟩|⟨h0,_⟩
       . simp at h0
       . injection h with h
         have M:(a1 == F)=b:=by rw[beq_toListBytes];exact h
         refine⟨_,E,by simp[Instr.sameNow,M],fun O=>?_⟩;have:a1=F:=SG (by rw[O]at h;simpa using h);subst this;exact⟨rfl,fun n=>by simp[Instr.sameBits,beq_toListBytes]⟩
       . simp at h0
     . rename_i a1 F I J
       cases I;cases J;rcases kI Z with⟨h0,_⟩|⟨h0,_⟩|⟨_,E⟩
       . simp at h0
       . simp at h0
       . injection h with h
         subst h;refine⟨_,E,by simp[Instr.sameNow],fun M=>?_⟩;have:a1=F:=by simpa using M
         subst this;exact⟨rfl,fun n=>by simp[Instr.sameBits]⟩
     . simp at h
   . simp at h
 . simp at h
theorem Gi{kt:TypeId}{x:AV}{u:Value}{d:TypeDesc}(T:P.underlying kt=some d)(Z:rep S w x u):∀(es:List (List AV)) (ms:List MapEntry) (i:Nat) {oi:Option Nat},jL S w i es ms->qP (oB P kt x) es i=some oi ->
   (oi=none->Instr.findNow d u ms i=some none)/\∀j,oi=some j->∃m cs,i<=j/\ms[j-i]?=some m/\es[j-i]?=some cs/\Instr.findNow d u ms i=some (some (j,m.val))/\m.key=u/\(∀n,Instr.sameBits (n+1) m.key u=true)/\m.born=j/\bF S w cs [m.key,m.val]
 | [],ms,i,oi,he,F=>by
   simp only[jL]at he;subst he;simp only[qP]at F;injection F with F;subst F;exact⟨fun _=>rfl,fun j h=>by simp at h⟩
 | cs::r,ms,i,oi,he,F=>by
   simp only[jL]at he;obtain⟨m,t,rfl,hb,M,ht⟩:=he;unfold qP at F;have hk:rep S w (cs.getD 0 .any) m.key:=by
     cases cs with
     | nil=>simp[bF]at M
     | cons c cs=>
       simp only[bF]at M;obtain⟨_,_,e,h1,_⟩:=M;injection e with e1 e2;subst e1;simpa using h1
   split at F
   . rename_i I
     injection F with F;subst F;obtain⟨d',E,h1,O⟩:=Gz I Z hk;rw[T]at E;injection E with E;subst E;refine⟨fun h=>by simp at h,fun j J=>?_⟩;injection J with J;subst J;exact⟨m,cs,Nat.le_refl _,by simp,by simp,by simp[Instr.findNow,h1],(O rfl).1.symm,(O rfl).2,hb,M⟩
   . rename_i I
     obtain⟨d',E,h1,O⟩:=Gz I Z hk;rw[T]at E;injection E with E;subst E;obtain⟨g1,g2⟩:=Gi T Z r t (i+1) ht F;refine⟨fun h=>by simp[Instr.findNow,h1,g1 h],fun j J=>?_⟩;obtain⟨m',cs',q1,q2,q3,q4,q5⟩:=g2 j J;have e:j-i=(j-(i+1))+1:=by omega
     exact⟨m',cs',by omega,by rw[e];simpa using q2,by rw[e];simpa using q3,by simp[Instr.findNow,h1,q4],q5⟩
   . simp at F
theorem wH:∀(i:Nat) (es:List (List AV)) (ms:List MapEntry),jL S w i es ms->ms.length=es.length
 | _,[],ms,h=>by simp only[jL]at h;simp[h]
 | i,cs::r,ms,h=>by
   simp only[jL]at h;obtain⟨m,t,rfl,_,_,u⟩:=h;simp[wH (i+1) r t u]
theorem Mi:∀(i:Nat) (es:List (List AV)) (ms:List MapEntry) (j:Nat),jL S w i es ms->j<es.length->∃m,ms[j]?=some m/\m.born=i+j/\bF S w (es.getD j []) [m.key,m.val]
 | _,[],_,_,_,h=>by simp at h
 | i,cs::r,ms,0,h,_=>by
   simp only[jL]at h;obtain⟨m,t,rfl,h1,I,_⟩:=h;exact⟨m,by simp,by simpa using h1,by simpa using I⟩
 | i,cs::r,ms,j+1,h,hj=>by
   simp only[jL]at h;obtain⟨m,t,rfl,_,_,u⟩:=h;obtain⟨E,F,J,g3⟩:=Mi (i+1) r t j u (by simpa using hj);exact⟨E,by simpa using F,by omega,by simpa using g3⟩
theorem AA:∀(i:Nat) (es:List (List AV)) (ms:List MapEntry) (j:Nat) {cs:List AV} {m:MapEntry},jL S w i es ms->m.born=i+j->bF S w cs [m.key,m.val]->jL S w i (es.set j cs) (ms.set j m)
 | _,[],ms,_,_,_,h,_,_=>by simp only[jL]at h;subst h;simp[jL]
 | i,c::r,ms,0,cs,m,h,hb,hr=>by
   simp only[jL]at h;obtain⟨E,t,rfl,_,_,u⟩:=h;simp only[List.set_cons_zero,jL];exact⟨m,t,rfl,by simpa using hb,hr,u⟩
 | i,c::r,ms,j+1,cs,m,h,hb,hr=>by
   simp only[jL]at h;obtain⟨E,t,rfl,h1,F,u⟩:=h;simp only[List.set_cons_succ,jL];exact⟨E,t.set j m,rfl,h1,F,AA (i+1) r t j u (by omega) hr⟩
theorem Ak:∀(i:Nat) (es:List (List AV)) (ms:List MapEntry) {cs:List AV} {m:MapEntry},jL S w i es ms->m.born=i+es.length->bF S w cs [m.key,m.val]->jL S w i (es++[cs]) (ms++[m])
 | i,[],ms,cs,m,h,hb,hr=>by
   simp only[jL]at h;subst h;simp only[List.nil_append,jL];exact⟨m,[],rfl,by simpa using hb,hr,rfl⟩
 | i,c::r,ms,cs,m,h,hb,hr=>by
   simp only[jL]at h;obtain⟨F,t,rfl,h1,u,E⟩:=h;simp only[List.cons_append,jL];exact⟨F,t++[m],rfl,h1,u,Ak (i+1) r t E (by simp at hb;omega) hr⟩
theorem wO{E:TypeId}{x:AV}(h:lD P E x=true){u:Value}(F:rep S w x u)(e:Bool)(n:Nat)(w':World):(∃d,P.underlying E=some d)/\(Instr.checkKey e (n+1) E u).run P w'=.ok () w':=by
 unfold lD at h;split at h
 all_goals first|(simp at h;done)|skip
 all_goals
   simp only[beq_iff_eq]at h;simp only[rep]at F;subst F;rcases kI h with⟨h0,k',hk'⟩|⟨h0,hk'⟩|⟨h0,hk'⟩ <;> first
     | (simp at h0;done)
     | exact⟨⟨_,hk'⟩,by unfold Instr.checkKey;simp only[Sem.run_bind,run_underlying hk',Result.andThen];rfl⟩
theorem Mj{t:TypeId}{E:TypeId×TypeId}{x:AV}{r:Row}{k:Nat}{u:Value}{F:Option Nat}(T:N0 P t=some E)(O:lD P E.1 x=true)(Z:qP (oB P E.1 x) r.es 0=some F)(hm:U5 S w k r)(I:rep S w x u):
   ∃g ms,S.loc k=.map (some g)/\w.heap[g]?=some (.map (List.toArray ms) ms.length)/\jL S w 0 r.es ms/\P.underlying t=some (.map E.1 E.2)/\(∀e (w':World),(Instr.checkKey e 10000 E.1 u).run P w'=.ok () w') /\
     ((F=none/\∀w':World,(Instr.findKey E.1 u ms).run P w'=.ok none w') \/
     ∃j m cs,F=some j/\ms[j]?=some m/\r.es[j]?=some cs/\(∀w':World,(Instr.findKey E.1 u ms).run P w'=.ok (some (j,m.val)) w')/\m.key=u/\(∀n,Instr.sameBits (n+1) m.key u=true)/\m.born=j/\bF S w cs [m.key,m.val]):=by
 obtain⟨g,ms,h1,h2,M,_⟩:=hm;obtain⟨⟨d,J⟩,_⟩:=wO O I true 0 w;refine⟨g,ms,h1,h2,M,TD T,fun e w'=>(wO O I e 9999 w').2,?_⟩;obtain⟨f1,f2⟩:=Gi J I r.es ms 0 M Z;cases F with
 | none=>exact .inl ⟨rfl,fun w'=>by simp[Instr.findKey,run_underlying J,f1 rfl]⟩
 | some j=>
   obtain⟨m,cs,_,q2,q3,q4,q5,q6,q7,q8⟩:=f2 j rfl;exact .inr ⟨j,m,cs,rfl,by simpa using q2,by simpa using q3,fun w'=>by simp[Instr.findKey,run_underlying J,q4],q5,q6,q7,q8⟩
theorem D2{cs:List AV}{a b:Value}(h:bF S w cs [a,b]):∃x y,cs=[x,y]/\rep S w x a/\rep S w y b:=by
 cases cs with
 | nil=>simp[bF]at h
 | cons x cs=>
   simp only[bF]at h;obtain⟨u,t,e,h1,I⟩:=h;injection e with E F;subst E F;cases cs with
   | nil=>simp[bF]at I
   | cons y cs=>
     simp only[bF]at I;obtain⟨u,t,e,J,M⟩:=I;injection e with E F;subst E F;cases cs with
     | nil=>exact⟨x,y,rfl,h1,J⟩
     | cons _ _=>simp[bF]at M
theorem Fk{t:TypeId}{x M:AV}{ok:Bool}(hH:xF S w H)(h:qO P H t x M ok K):
   ∃z,K z/\(gt G->∀u v,rep S w x u->rep S w M v->uC P S H w z (Instr.lookup t u v ok)):=by
 unfold qO Cc at h;split at h
 . rename_i j
   split at h
   . rename_i r kt hj ht
     split at h
     . rename_i oi hf
       obtain⟨hp,h⟩:=h;split at h
       . rename_i z hz
         refine⟨_,h,fun _ u v hu hv=>?_⟩;simp only[rep]at hu;obtain⟨_,rfl,g0,aa⟩:=hu;obtain⟨g,ms,h1,h2,h3,O,T,Z⟩:=Mj ht hp hf ((hH j r hj).mp aa) hv;obtain⟨zv,J,I⟩:=G1 hz;have E:∀w',Agree S H w w'->w'.heap[g]?=some (.map (List.toArray ms) ms.length):=fun w' F=>(F.own j r hj g (by rw[h1];rfl)).trans h2
         rcases Z with⟨rfl,Z⟩|⟨i,m,cs,rfl,q1,q2,q3,q4,q5,q6,q7⟩
         . cases ok with
           | false=>
             refine⟨zv,I S w,fun w' F=>?_⟩;simp[Instr.lookup,run_underlying O,h1,MapKept.run_getObj_map (E w' F),T,Z,J,Ee]
           | true=>
             refine⟨.tuple #[zv,.bool false],?_,fun w' F=>?_⟩
             . simp only[Ee,if_true,rep,bF]
               exact⟨[zv,.bool false],by simp,_,_,rfl,I S w,_,_,rfl,rfl,rfl⟩
             . simp[Instr.lookup,run_underlying O,h1,MapKept.run_getObj_map (E w' F),T,Z,J,Ee]
         . obtain⟨xk,xv,rfl,r1,r2⟩:=D2 q7
           have e1:(r.es.getD i []).getD 1 .any=xv:=by simp[List.getD,q2]
           cases ok with
           | false=>
             refine⟨m.val,by simp only[Ee,e1];exact r2,fun w' F=>?_⟩;simp[Instr.lookup,run_underlying O,h1,MapKept.run_getObj_map (E w' F),T,q3]
           | true=>
             refine⟨.tuple #[m.val,.bool true],?_,fun w' F=>?_⟩
             . simp only[Ee,if_true,e1,rep,bF]
               exact⟨[m.val,.bool true],by simp,_,_,rfl,r2,_,_,rfl,rfl,rfl⟩
             . simp[Instr.lookup,run_underlying O,h1,MapKept.run_getObj_map (E w' F),T,q3]
       . exact h.elim
     . exact h.elim
   . exact h.elim
 . exact h.elim
end
end Go.Aw
end
section
namespace Go.Aw
open Go.RowKit
section
variable{P:Program}{S:Sg}{H:aG}{w:World}{G:Option Bool}{K:AV->Prop}
theorem xL{s:Sem Value}{v:Value}{w':World}(h:s.run P w'=.ok v w'):(do pure (Next.value (<-s)):Sem Next).run P w'=.ok (.value v) w':=by
 simp[h]
def kQ(P:Program)(S:Sg)(H:aG)(w:World)(a:Act)(op:Op)(z:AV):Prop:=
 ∃v,rep S w z v/\∀w',Agree S H w w'->∀o:Oper,o.op=op->(execOp a.eval o).run P w'=.ok (.value v) w'
theorem kQ.of_does{a:Act}{op:Op}{z:AV}{s:Sem Value}(u:uC P S H w z s)(I:∀o:Oper,o.op=op->execOp a.eval o=(do pure (Next.value (<-s)):Sem Next)):kQ P S H w a op z:=by
 obtain⟨v,M,E⟩:=u;exact⟨v,M,fun w' J o F=>by rw[I o F];exact xL (E w' J)⟩
theorem lS{G:Option Bool}{ρ:Env}{a:Act}(F:FR S w ρ a):∀(l:List Operand) {K:List AV->Prop},(∀x∈l,opB a.tmps.size x=true)->yJ G ρ l K ->
   ∃E,K E/\(gt G->bF S w E (l.map a.eval))
 | [],K,_,h=>⟨[],h,fun _=>by simp[bF]⟩
 | x::rest,K,hb,h=>by
   simp only[yJ]at h;obtain⟨y,h,J⟩:=aR (S:=S) (w:=w) h;obtain⟨E,M,u⟩:=lS F rest (fun x O=>hb x (by simp[O])) h;refine⟨_,M,fun I=>?_⟩;simp only[List.map_cons,bF];exact⟨_,_,rfl,J I _ (cC F (hb x (by simp))),u I⟩
theorem CN{ρ:Env}{a:Act}{op:Op}(hb:∀x∈op.operands,opB a.tmps.size x=true)(hF:FR S w ρ a)(hH:xF S w H)(h:fT P G ρ H op K):
   ∃z,K z/\(gt G->kQ P S H w a op z):=by
 have ev:=fun x M=>cC hF (hb x M)
 cases op <;> simp only[fT]at h <;> simp only[Op.operands]at ev hb <;> try exact h.elim
 case move x=>
   obtain⟨z,I,O⟩:=aR (S:=S) (w:=w) h;exact⟨z,I,fun E=>⟨_,O E _ (ev x (by simp)),fun w' _ o F=>by simp[execOp,F]⟩⟩
 case assign x=>
   obtain⟨z,I,O⟩:=aR (S:=S) (w:=w) h;exact⟨z,I,fun E=>⟨_,O E _ (ev x (by simp)),fun w' _ o F=>by simp[execOp,F]⟩⟩
 case pick c x y=>
   obtain⟨zc,h,hc⟩:=aR (S:=S) (w:=w) h;split at h
   . rename_i b
     obtain⟨z,I,O⟩:=J3 (S:=S) (w:=w) h;refine⟨z,I,fun E=>?_⟩;have e:=W0 (hc E _ (ev c (by simp)));refine⟨_,O E _ _ (ev x (by simp)) (ev y (by simp)),fun w' _ o F=>?_⟩;simp[execOp,F,e,asBool]
   . exact h.elim
 case build t parts=>
   obtain⟨ps,h,ai⟩:=mB hF parts.toList (fun p hp=>hb p.2 (by simpa using⟨p.1,by simpa using hp⟩)) h;unfold tY at h;split at h
   . rename_i z pl I ag
     split at h
     . rename_i cs ah
       refine⟨_,h,fun E=>?_⟩;obtain⟨e1,e2⟩:=ai E;obtain⟨A',f1,f2,f3⟩:=Ia (S:=S) (w:=w) I ag ah e1 e2;refine⟨.agg A',by simp only[rep];exact⟨A'.toList,by simp,f2,f3⟩,fun w' _ o F=>?_⟩;have:(parts.map fun(p:Nat×Operand)=>(p.1,a.eval p.2)).toList=parts.toList.map fun p=>(p.1,a.eval p.2):=by simp
       rw[<-this]at f1;simp only[execOp,F];exact xL (run_build w' t _ A' f1)
     . exact h.elim
   . exact h.elim
 case load t x=>
   split at h
   . rename_i l hl
     obtain⟨y,h,O⟩:=aR (S:=S) (w:=w) h;obtain⟨z,I,T⟩:=Cw hl hH h;exact⟨z,I,fun E=>kQ.of_does (T E _ (O E _ (ev x (by simp)))) (fun o F=>by simp[execOp,F])⟩
   . exact h.elim
 case nilCheck x=>
   obtain⟨y,h,O⟩:=aR (S:=S) (w:=w) h;split at h
   . refine⟨_,h,fun E=>?_⟩
     have e:=O E _ (ev x (by simp));refine⟨_,e,fun w' _ o F=>?_⟩;simp only[rep]at e;obtain⟨b,p,e,_⟩:=e;simp[execOp,F,e]
   . refine⟨_,h,fun E=>?_⟩
     have e:=O E _ (ev x (by simp));refine⟨_,e,fun w' _ o F=>?_⟩;simp only[rep]at e;obtain⟨_,b,p,c,_,e⟩:=e;simp[execOp,F,e]
   . exact h.elim
 case binOp op t x y t'=>
   split at h
   . rename_i ac
     have O:y=.const (.slice none 0 0):=by
       unfold pV at ac;split at ac
       . rfl
       . simp at ac
     subst O;obtain⟨x',h,M⟩:=aR (S:=S) (w:=w) h;obtain⟨af,h⟩:=h;obtain⟨e,ak⟩:=vW af;have J:∀(b:Bool) (ad:Option Addr) (n c:Nat),a.eval x=.slice ad n c->(op=.eql/\b=ad.isNone\/op=.neq/\b= !ad.isNone)->kQ P S H w a (.binOp op t x (.const (.slice none 0 0)) t') (.v (.bool b)):=by
       intro b ad n c M hb;refine⟨.bool b,by simp only[rep],fun w' _ o F=>?_⟩;have ec:a.eval (.const (.slice none 0 0))=.slice none 0 0:=rfl;simp only[execOp,F,M,ec];have E:(eqGuard op t x (.const (.slice none 0 0)) (.slice ad n c) (.slice none 0 0)).run P w'=.ok () w':=gZ op t x _ _ _ (by simp) (by simp) w';have he:(Op.equal t (.slice ad n c) (.slice none 0 0)).run P w'=.ok ad.isNone w':=by
         have e0:Op.equal t (.slice ad n c) (.slice none 0 0)=Op.equalIn (9999+1) t (.slice ad n c) (.slice none 0 0):=rfl;rw[e0];unfold Op.equalIn;cases ad <;> simp[run_underlying ak]
       rcases hb with⟨rfl,rfl⟩|⟨rfl,rfl⟩
       . exact xL (by simp only[Sem.run_bind,E,Result.andThen_ok];simp[binOp,he])
       . exact xL (by simp only[Sem.run_bind,E,Result.andThen_ok];simp[binOp,he])
     by_cases E:gt G
     . have ex:=M E _ (ev x (by simp))
       unfold oF at h;split at h
       . simp only[rep]at ex
         obtain⟨ad,n,c,hv,hl,_,_,hc⟩:=ex;cases ad with
         | none=>
           rcases hc with hc|⟨b,o,sz,hc,_⟩
           . exact⟨_,h.1 hc,fun _=>J _ _ _ _ hv (.inl ⟨rfl,rfl⟩)⟩
           . simp at hc
         | some ad=>exact⟨_,h.2,fun _=>J _ _ _ _ hv (.inl ⟨rfl,rfl⟩)⟩
       . simp only[rep]at ex
         obtain⟨ad,n,c,hv,hl,_,_,hc⟩:=ex;cases ad with
         | none=>
           rcases hc with hc|⟨b,o,sz,hc,_⟩
           . exact⟨_,h.1 hc,fun _=>J _ _ _ _ hv (.inr ⟨rfl,rfl⟩)⟩
           . simp at hc
         | some ad=>exact⟨_,h.2,fun _=>J _ _ _ _ hv (.inr ⟨rfl,rfl⟩)⟩
       . simp only[rep]at ex
         obtain⟨_,_,ad,n,c,hv⟩:=ex;cases ad with
         | none=>exact⟨_,h.1,fun _=>J _ _ _ _ hv (.inl ⟨rfl,rfl⟩)⟩
         | some ad=>exact⟨_,h.2,fun _=>J _ _ _ _ hv (.inl ⟨rfl,rfl⟩)⟩
       . simp only[rep]at ex
         obtain⟨_,_,ad,n,c,hv⟩:=ex;cases ad with
         | none=>exact⟨_,h.1,fun _=>J _ _ _ _ hv (.inr ⟨rfl,rfl⟩)⟩
         | some ad=>exact⟨_,h.2,fun _=>J _ _ _ _ hv (.inr ⟨rfl,rfl⟩)⟩
       . simp only[rep]at ex
         exact⟨_,h,fun _=>J _ none 0 0 ex (.inl ⟨rfl,rfl⟩)⟩
       . simp only[rep]at ex
         exact⟨_,h,fun _=>J _ none 0 0 ex (.inr ⟨rfl,rfl⟩)⟩
       . exact h.elim
     . unfold oF at h
       split at h
       . exact⟨_,h.2,fun Z=>absurd Z E⟩
       . exact⟨_,h.2,fun Z=>absurd Z E⟩
       . exact⟨_,h.2,fun Z=>absurd Z E⟩
       . exact⟨_,h.2,fun Z=>absurd Z E⟩
       . exact⟨_,h,fun Z=>absurd Z E⟩
       . exact⟨_,h,fun Z=>absurd Z E⟩
       . exact h.elim
   obtain⟨x',h,M⟩:=aR (S:=S) (w:=w) h;obtain⟨y',h,O⟩:=aR (S:=S) (w:=w) h;obtain⟨z,I,T⟩:=Ov (S:=S) (H:=H) (w:=w) h;exact⟨z,I,fun E=>kQ.of_does (T E _ _ (M E _ (ev x (by simp))) (O E _ (ev y (by simp))) x y) (fun o F=>by simp[execOp,F])⟩
 case unOp op t x=>
   obtain⟨x',h,M⟩:=aR (S:=S) (w:=w) h;obtain⟨z,I,T⟩:=RT (P:=P) (S:=S) (H:=H) (w:=w) h;exact⟨z,I,fun E=>kQ.of_does (T _ (M E _ (ev x (by simp)))) (fun o F=>by simp[execOp,F])⟩
 case convert src dst x=>
   obtain⟨x',h,M⟩:=aR (S:=S) (w:=w) h;obtain⟨z,I,T⟩:=Jl (S:=S) (H:=H) (w:=w) h;exact⟨z,I,fun E=>kQ.of_does (T _ (M E _ (ev x (by simp)))) (fun o F=>by simp[execOp,F])⟩
 case slice t x lo hi m=>
   cases m with
   | some m=>
     cases lo with
     | some lo=>exact h.elim
     | none=>
       cases hi with
       | none=>exact h.elim
       | some hi=>
         simp only at h;obtain⟨x',h,M⟩:=aR (S:=S) (w:=w) h;obtain⟨ae,h,aa⟩:=aR (S:=S) (w:=w) h;obtain⟨m',h,hm⟩:=aR (S:=S) (w:=w) h;obtain⟨z,I,T⟩:=Cr (S:=S) (w:=w) (H:=H) h;exact⟨z,I,fun E=>kQ.of_does (T E _ _ _ (M E _ (ev x (by simp))) (aa E _ (ev hi (by simp))) (hm E _ (ev m (by simp)))) (fun o F=>by simp[execOp,F])⟩
   | none=>
     simp only at h;obtain⟨x',h,M⟩:=aR (S:=S) (w:=w) h;cases lo with
     | some lo=>
       cases hi with
       | some hi=>
         obtain⟨al,h,ab⟩:=aR (S:=S) (w:=w) h;obtain⟨ae,h,aa⟩:=aR (S:=S) (w:=w) h;obtain⟨z,I,T⟩:=oZ hH h;refine⟨z,I,fun E=>kQ.of_does (T E _ (some (a.eval lo)) (some (a.eval hi)) (M E _ (ev x (by simp))) ?_ (by simp) ?_ (by simp)) (fun o F=>by simp[execOp,F])⟩
         . intro y O;injection O with O;subst O;exact⟨_,rfl,ab E _ (ev lo (by simp))⟩
         . intro y O;injection O with O;subst O;exact⟨_,rfl,aa E _ (ev hi (by simp))⟩
       | none=>
         obtain⟨al,h,ab⟩:=aR (S:=S) (w:=w) h;obtain⟨z,I,T⟩:=oZ hH h;refine⟨z,I,fun E=>kQ.of_does (T E _ (some (a.eval lo)) none (M E _ (ev x (by simp))) ?_ (by simp) (by simp) (by simp)) (fun o F=>by simp[execOp,F])⟩;intro y O;injection O with O;subst O;exact⟨_,rfl,ab E _ (ev lo (by simp))⟩
     | none=>
       cases hi with
       | some hi=>
         obtain⟨ae,h,aa⟩:=aR (S:=S) (w:=w) h;obtain⟨z,I,T⟩:=oZ hH h;refine⟨z,I,fun E=>kQ.of_does (T E _ none (some (a.eval hi)) (M E _ (ev x (by simp))) (by simp) (by simp) ?_ (by simp)) (fun o F=>by simp[execOp,F])⟩;intro y O;injection O with O;subst O;exact⟨_,rfl,aa E _ (ev hi (by simp))⟩
       | none=>exact h.elim
 case fieldAddr t x f=>
   obtain⟨x',h,M⟩:=aR (S:=S) (w:=w) h;obtain⟨z,I,T⟩:=Bi (G:=G) (S:=S) (H:=H) (w:=w) h;exact⟨z,I,fun E=>kQ.of_does (T E _ (M E _ (ev x (by simp)))) (fun o F=>by simp[execOp,F])⟩
 case field t x f=>
   split at h
   . rename_i o l F
     obtain⟨x',h,M⟩:=aR (S:=S) (w:=w) h;obtain⟨fs,fd,i,hu,hf,rfl,hi,_,hl⟩:=yE F;obtain⟨z,I,T⟩:=Ce (S:=S) (H:=H) (w:=w) hl h;refine⟨z,I,fun E=>?_⟩;obtain⟨cs,e,T⟩:=T E _ (M E _ (ev x (by simp)));refine kQ.of_does (s:=Instr.field t (.agg cs) f) ?_ (fun o F=>by simp[execOp,F,e]);obtain⟨v,hv,hr⟩:=T;refine⟨v,hv,fun w' ha=>?_⟩;simp[Instr.field,run_underlying hu,hf,asAgg,hr w' ha]
   . exact h.elim
 case indexAddr t x i=>
   obtain⟨x',h,M⟩:=aR (S:=S) (w:=w) h;obtain⟨i',h,hi⟩:=aR (S:=S) (w:=w) h;obtain⟨z,I,T⟩:=Bb hH h;exact⟨z,I,fun E=>kQ.of_does (T E _ _ (M E _ (ev x (by simp))) (hi E _ (ev i (by simp)))) (fun o F=>by simp[execOp,F])⟩
 case index t x i=>
   obtain⟨x',h,M⟩:=aR (S:=S) (w:=w) h;obtain⟨i',h,hi⟩:=aR (S:=S) (w:=w) h;obtain⟨z,I,T⟩:=IG (S:=S) (H:=H) (w:=w) h;exact⟨z,I,fun E=>kQ.of_does (T E _ _ (M E _ (ev x (by simp))) (hi E _ (ev i (by simp)))) (fun o F=>by simp[execOp,F])⟩
 case extract x i=>
   obtain⟨x',h,M⟩:=aR (S:=S) (w:=w) h;split at h
   . rename_i vs
     refine⟨_,h.2,fun E=>?_⟩;have e:=M E _ (ev x (by simp));simp only[rep]at e;obtain⟨l,e,hl⟩:=e;obtain⟨u,h1,h2⟩:=AK vs l i hl (h.1 E);exact⟨u,h2,fun w' _ o F=>by simp[execOp,F,e,Instr.extract,h1]⟩
   . exact h.elim
 case lookup t x i ok=>
   obtain⟨x',h,M⟩:=aR (S:=S) (w:=w) h;obtain⟨i',h,hi⟩:=aR (S:=S) (w:=w) h;obtain⟨z,I,T⟩:=Fk (G:=G) hH h;exact⟨z,I,fun E=>kQ.of_does (T E _ _ (M E _ (ev x (by simp))) (hi E _ (ev i (by simp)))) (fun o F=>by simp[execOp,F])⟩
 case makeFunc f first cap=>
   cases f <;> simp only at h <;> try exact h.elim
   rename_i f
   obtain⟨hf,h⟩:=h;subst hf;obtain⟨ys,I,aj⟩:=lS hF cap.toList (fun x M=>hb x (by simp[Array.mem_toList_iff.1 M])) h;refine⟨_,I,fun E=>⟨.func (.func f) #[] (cap.map a.eval),?_,fun w' _ o F=>by simp[execOp,F,Instr.makeFunc]⟩⟩;simp only[rep];exact⟨cap.toList.map a.eval,by rw[<-Array.toList_map],aj E⟩
theorem Ao{H':aG}{ρ:Env}{a:Act}{t:TypeId}{x:Operand}{lo F m:Option Operand}(hb:∀y∈(Op.slice t x lo F m).operands,opB a.tmps.size y=true)(hF:FR S w ρ a)(hH:xF S w H)(h:fT P G ρ H (.slice t x lo F m) K):
   ∃z,K z/\(gt G->kQ P S H' w a (.slice t x lo F m) z):=by
 have ev:=fun x M=>cC hF (hb x M)
 simp only[fT]at h;simp only[Op.operands]at ev hb;cases m with
 | some m=>
   cases lo with
   | some lo=>exact h.elim
   | none=>
     cases F with
     | none=>exact h.elim
     | some F=>
       simp only at h;obtain⟨x',h,M⟩:=aR (S:=S) (w:=w) h;obtain⟨aa,h,I⟩:=aR (S:=S) (w:=w) h;obtain⟨m',h,hm⟩:=aR (S:=S) (w:=w) h;obtain⟨z,O,Z⟩:=Cr (S:=S) (w:=w) (H:=H') h;exact⟨z,O,fun u=>kQ.of_does (Z u _ _ _ (M u _ (ev x (by simp))) (I u _ (ev F (by simp))) (hm u _ (ev m (by simp)))) (fun o T=>by simp[execOp,T])⟩
 | none=>
   simp only at h;obtain⟨x',h,M⟩:=aR (S:=S) (w:=w) h;cases lo with
   | some lo=>
     cases F with
     | some F=>
       obtain⟨ab,h,J⟩:=aR (S:=S) (w:=w) h;obtain⟨aa,h,I⟩:=aR (S:=S) (w:=w) h;obtain⟨z,O,Z⟩:=oZ hH h;refine⟨z,O,fun u=>kQ.of_does (Z u _ (some (a.eval lo)) (some (a.eval F)) (M u _ (ev x (by simp))) ?_ (by simp) ?_ (by simp)) (fun o T=>by simp[execOp,T])⟩
       . intro y E;injection E with E;subst E;exact⟨_,rfl,J u _ (ev lo (by simp))⟩
       . intro y E;injection E with E;subst E;exact⟨_,rfl,I u _ (ev F (by simp))⟩
     | none=>
       obtain⟨ab,h,J⟩:=aR (S:=S) (w:=w) h;obtain⟨z,O,Z⟩:=oZ hH h;refine⟨z,O,fun u=>kQ.of_does (Z u _ (some (a.eval lo)) none (M u _ (ev x (by simp))) ?_ (by simp) (by simp) (by simp)) (fun o T=>by simp[execOp,T])⟩;intro y E;injection E with E;subst E;exact⟨_,rfl,J u _ (ev lo (by simp))⟩
   | none=>
     cases F with
     | some F=>
       obtain⟨aa,h,I⟩:=aR (S:=S) (w:=w) h;obtain⟨z,O,Z⟩:=oZ hH h;refine⟨z,O,fun u=>kQ.of_does (Z u _ none (some (a.eval F)) (M u _ (ev x (by simp))) (by simp) (by simp) ?_ (by simp)) (fun o T=>by simp[execOp,T])⟩;intro y E;injection E with E;subst E;exact⟨_,rfl,I u _ (ev F (by simp))⟩
     | none=>exact h.elim
end
end Go.Aw
end
section
namespace Go.Aw
def UY:Array Value:=(Go.Lib.pow10Tab.map fun z=>Value.int .u64 z).toArray
def N4:Array Value:=(Go.Lib.deBruijn64tab.map fun z:Nat=>Value.int .u8 (z:Int)).toArray
def SA:List (Nat×Array Value):=[(1,UY),(3,N4)]
end Go.Aw
end
