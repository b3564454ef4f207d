import Derived.MapKept
import Derived.Lib.ItoaMem
import Derived.Lib.TrailingZeros
import Derived.Test.YtohmomanmikphaaGreatDoorPl01
set_option linter.unusedSimpArgs false
set_option linter.unusedVariables false
set_option maxRecDepth 100000
section
namespace Go.Aw
open Go.RowKit
structure Sg where
 ro:Nat->Prop
 fz:Nat->Prop
 loc:Nat->Value
 sz:Nat->Nat
 N:Nat
mutual
def rep(S:Sg)(w:World):AV->Value->Prop
 | .v x,y=>y=x
 | .any,_=>True
 | .sl es,y=>∃ad n c,y=.slice ad n c/\es.length=n/\n<=c/\c<=maxLen/\(es=[]\/∃b o sz,ad=some ⟨b,o,none⟩/\S.ro b/\0<sz/\gX S w b sz o es)
 | .rp cs off,y=>∃b o,y=.pointer (some ⟨b,o+off,none⟩)/\S.ro b/\cR S w b o cs
 | .agg cs,y=>∃l:List Value,y=.agg l.toArray/\bG S w cs l/\∀u∈l,u.oneCell'=true
 | .tup vs,y=>∃l:List Value,y=.tuple l.toArray/\bG S w vs l
 | .os k,y=>k<S.N/\y=S.loc k/\∃a n c,y=.slice a n c
 | .op k i f,y=>k<S.N/\∃g n c,S.loc k=.slice (some ⟨g,0,none⟩) n c/\y=.pointer (some ⟨g,i*S.sz k+f,none⟩)
 | .gd g x,y=>(g=true->rep S w x y)/\(g=false->y=undef)
 | .nf x,y=>rep S w x y
 | .fn f cap,y=>∃l:List Value,y=.func (.func f) #[] l.toArray/\bG S w cap l
 | .om k,y=>k<S.N/\y=S.loc k/\∃g,y=.map (some g)
 | .cl es,y=>∃ad n,y=.slice ad n n/\es.length=n/\n<=maxLen/\(es=[]\/∃b o sz,ad=some ⟨b,o,none⟩/\S.ro b/\0<sz/\gX S w b sz o es)
 | .oz k a b,y=>k<S.N/\∃ad n c ad' cc,S.loc k=.slice ad n c/\y=.slice ad' (b-a) cc/\a<=b/\b<=n/\(a<b->∃g,ad=some ⟨g,0,none⟩/\ad'=some ⟨g,a*S.sz k,none⟩)/\(a=0->ad'=ad/\cc=c)
def bG(S:Sg)(w:World):List AV->List Value->Prop
 | [],l=>l=[]
 | x::r,l=>∃u t,l=u::t/\rep S w x u/\bG S w r t
def cR(S:Sg)(w:World)(b:Nat):Nat->List AV->Prop
 | _,[]=>True
 | o,x::r=>(∃u,w.cell? ⟨b,o,none⟩=some u/\u.oneCell'=true/\rep S w x u)/\cR S w b (o+1) r
def gX(S:Sg)(w:World)(b sz:Nat):Nat->List (List AV)->Prop
 | _,[]=>True
 | o,cs::r=>cs.length=sz/\cR S w b o cs/\gX S w b sz (o+sz) r
end
structure Sg.le(S S':Sg):Prop where
 ro:∀k,S.ro k->S'.ro k
 N:S.N<=S'.N
 loc:∀k,k<S.N->S'.loc k=S.loc k
 sz:∀k,k<S.N->S'.sz k=S.sz k
theorem Sg.le_refl(S:Sg):S.le S:=⟨fun _ h=>h,Nat.le_refl _,fun _ _=>rfl,fun _ _=>rfl⟩
theorem Sg.le_trans{S S' E:Sg}(h:S.le S')(F:S'.le E):S.le E:=
 ⟨fun k u=>F.ro k (h.ro k u),Nat.le_trans h.N F.N,fun k u=>(F.loc k (Nat.lt_of_lt_of_le u h.N)).trans (h.loc k u),
   fun k u=>(F.sz k (Nat.lt_of_lt_of_le u h.N)).trans (h.sz k u)⟩
def blk:Value->Option Nat
 | .slice (some a) _ _=>some a.block
 | .map (some g)=>some g
 | _=>none
def fG(S:Sg)(w w':World):Prop:=∀k,S.ro k->w'.heap[k]?=w.heap[k]?
theorem fG.refl(S:Sg)(w:World):fG S w w:=fun _ _=>rfl
section
variable{S S':Sg}{w w':World}
theorem fG.cell(h:fG S w w'){b o:Nat}(u:S.ro b):w'.cell? ⟨b,o,none⟩=w.cell? ⟨b,o,none⟩:=World.cell?_of_block (a:=⟨b,o,none⟩) (h b u)
mutual
theorem kG(u:S.le S')(E:fG S w w'):∀(x:AV) (y:Value),rep S w x y->rep S' w' x y
 | .v _,_,h=>h
 | .any,_,_=>trivial
 | .sl es,y,h=>by
   simp only[rep]at h |-;obtain⟨T,n,c,rfl,h1,h2,Z,I⟩:=h;refine⟨T,n,c,rfl,h1,h2,Z,?_⟩;rcases I with I|⟨b,o,sz,rfl,F,O,M⟩
   . exact .inl I
   . exact .inr ⟨b,o,sz,rfl,u.ro b F,O,AT u E F sz o es M⟩
 | .rp cs off,y,h=>by
   simp only[rep]at h |-;obtain⟨b,o,rfl,F,hc⟩:=h;exact⟨b,o,rfl,u.ro b F,wE u E F o cs hc⟩
 | .agg cs,y,h=>by
   simp only[rep]at h |-;obtain⟨l,rfl,J,h1⟩:=h;exact⟨l,rfl,dR u E cs l J,h1⟩
 | .tup vs,y,h=>by
   simp only[rep]at h |-;obtain⟨l,rfl,J⟩:=h;exact⟨l,rfl,dR u E vs l J⟩
 | .os k,y,h=>by
   simp only[rep]at h |-;exact⟨Nat.lt_of_lt_of_le h.1 u.N,by rw[u.loc k h.1];exact h.2⟩
 | .op k i f,y,h=>by
   simp only[rep]at h |-;refine⟨Nat.lt_of_lt_of_le h.1 u.N,?_⟩;rw[u.loc k h.1,u.sz k h.1];exact h.2
 | .gd g x,y,h=>by
   simp only[rep]at h |-;exact⟨fun hg=>kG u E x y (h.1 hg),h.2⟩
 | .nf x,y,h=>by
   simp only[rep]at h |-;exact kG u E x y h
 | .fn f cap,y,h=>by
   simp only[rep]at h |-;obtain⟨l,rfl,J⟩:=h;exact⟨l,rfl,dR u E cap l J⟩
 | .om k,y,h=>by
   simp only[rep]at h |-;exact⟨Nat.lt_of_lt_of_le h.1 u.N,by rw[u.loc k h.1];exact h.2⟩
 | .oz k a b,y,h=>by
   simp only[rep]at h |-;refine⟨Nat.lt_of_lt_of_le h.1 u.N,?_⟩;rw[u.loc k h.1,u.sz k h.1];exact h.2
 | .cl es,y,h=>by
   simp only[rep]at h |-;obtain⟨T,n,rfl,h1,Z,I⟩:=h;refine⟨T,n,rfl,h1,Z,?_⟩;rcases I with I|⟨b,o,sz,rfl,F,O,M⟩
   . exact .inl I
   . exact .inr ⟨b,o,sz,rfl,u.ro b F,O,AT u E F sz o es M⟩
theorem dR(E:S.le S')(F:fG S w w'):∀(x:List AV) (l:List Value),bG S w x l->bG S' w' x l
 | [],_,h=>h
 | x::r,l,h=>by
   simp only[bG]at h |-;obtain⟨u,t,rfl,h1,I⟩:=h;exact⟨u,t,rfl,kG E F x u h1,dR E F r t I⟩
theorem wE(I:S.le S')(E:fG S w w'){b:Nat}(F:S.ro b):∀(o:Nat) (x:List AV),cR S w b o x->cR S' w' b o x
 | _,[],_=>trivial
 | o,x::r,h=>by
   simp only[cR]at h |-;obtain⟨⟨u,h1,J,M⟩,O⟩:=h;exact⟨⟨u,by rw[E.cell F];exact h1,J,kG I E x u M⟩,wE I E F (o+1) r O⟩
theorem AT(u:S.le S')(E:fG S w w'){b:Nat}(F:S.ro b)(sz:Nat):∀(o:Nat) (x:List (List AV)),gX S w b sz o x->gX S' w' b sz o x
 | _,[],_=>trivial
 | o,x::r,h=>by
   simp only[gX]at h |-;exact⟨h.1,wE u E F o x h.2.1,AT u E F sz (o+sz) r h.2.2⟩
end
theorem xP:∀(cs:List AV) (o j:Nat) {b:Nat},cR S w b o cs->j<cs.length->∃u,w.cell? ⟨b,o+j,none⟩=some u/\u.oneCell'=true/\rep S w (cs.getD j .any) u
 | [],_,_,_,_,h=>by simp at h
 | x::r,o,0,b,h,_=>by
   simp only[cR]at h;simpa using h.1
 | x::r,o,j+1,b,h,hj=>by
   simp only[cR]at h;have:=xP r (o+1) j h.2 (by simpa using hj);rw[show o+1+j=o+(j+1)by omega]at this;simpa using this
theorem vI:∀(cs:List AV) (o j:Nat) {b:Nat},cR S w b o cs->cR S w b (o+j) (cs.drop j)
 | [],_,_,_,_=>by simp[cR]
 | x::r,o,0,b,h=>by simpa using h
 | x::r,o,j+1,b,h=>by
   simp only[cR]at h;have:=vI r (o+1) j h.2;rw[show o+1+j=o+(j+1)by omega]at this;simpa using this
theorem vL:∀(cs:List AV) (o j:Nat) {b:Nat},cR S w b o cs->cR S w b o (cs.take j)
 | [],_,_,_,_=>by simp[cR]
 | x::r,o,0,b,h=>by simp[cR]
 | x::r,o,j+1,b,h=>by
   simp only[cR,List.take_succ_cons]at h |-;exact⟨h.1,vL r (o+1) j h.2⟩
theorem lO:∀(cs:List AV) (o:Nat) {b:Nat},cR S w b o cs->∃l:List Value,l.length=cs.length/\bG S w cs l/\(∀u∈l,u.oneCell'=true)/\∀j u,l[j]?=some u->w.cell? ⟨b,o+j,none⟩=some u
 | [],_,_,_=>⟨[],rfl,by simp[bG],by simp,by simp⟩
 | x::r,o,b,h=>by
   simp only[cR]at h;obtain⟨⟨u,h1,F,J⟩,O⟩:=h;obtain⟨l,Z,M,I,T⟩:=lO r (o+1) O;refine⟨u::l,by simp[Z],?_,?_,?_⟩
   . simp only[bG]
     exact⟨u,l,rfl,J,M⟩
   . intro v E
     rcases List.mem_cons.1 E with rfl|E
     . exact F
     . exact I v E
   . intro j v E
     cases j with
     | zero=>simp at E;subst E;simpa using h1
     | succ j=>rw[show o+(j+1)=o+1+j by omega];exact T j v (by simpa using E)
theorem qT:∀(es:List (List AV)) (o i:Nat) {b sz:Nat},gX S w b sz o es->i<es.length->(es.getD i []).length=sz/\cR S w b (o+i*sz) (es.getD i [])
 | [],_,_,_,_,_,h=>by simp at h
 | x::r,o,0,b,sz,h,_=>by
   simp only[gX]at h;simpa using⟨h.1,h.2.1⟩
 | x::r,o,i+1,b,sz,h,hi=>by
   simp only[gX]at h;have:=qT r (o+sz) i h.2.2 (by simpa using hi);rw[show o+sz+i*sz=o+(i+1)*sz by rw[Nat.add_mul];omega]at this;simpa using this
theorem AO:∀(es:List (List AV)) (o i:Nat) {b sz:Nat},gX S w b sz o es->gX S w b sz (o+i*sz) (es.drop i)
 | [],_,_,_,_,_=>by simp[gX]
 | x::r,o,0,b,sz,h=>by simpa using h
 | x::r,o,i+1,b,sz,h=>by
   simp only[gX]at h;have:=AO r (o+sz) i h.2.2;rw[show o+sz+i*sz=o+(i+1)*sz by rw[Nat.add_mul];omega]at this;simpa using this
theorem wH:∀(es:List (List AV)) (o i:Nat) {b sz:Nat},gX S w b sz o es->gX S w b sz o (es.take i)
 | [],_,_,_,_,_=>by simp[gX]
 | x::r,o,0,b,sz,h=>by simp[gX]
 | x::r,o,i+1,b,sz,h=>by
   simp only[gX,List.take_succ_cons]at h |-;exact⟨h.1,h.2.1,wH r _ i h.2.2⟩
theorem rS:∀(xs u:List AV) (o:Nat) {b:Nat},cR S w b o (xs++u)↔cR S w b o xs/\cR S w b (o+xs.length) u
 | [],u,o,b=>by simp[cR]
 | x::r,u,o,b=>by
   simp only[List.cons_append,cR,rS r u (o+1),List.length_cons,show o+1+r.length=o+(r.length+1)by omega,and_assoc]
theorem vQ:∀(es:List (List AV)) (o:Nat) {b sz:Nat},gX S w b sz o es->cR S w b o es.flatten
 | [],_,_,_,_=>by simp[cR]
 | x::r,o,b,sz,h=>by
   simp only[gX]at h;rw[List.flatten_cons,rS];refine⟨h.2.1,?_⟩;rw[h.1];exact vQ r _ h.2.2
theorem pE:∀(es:List (List AV)) (o:Nat) {b sz:Nat},(∀cs∈es,cs.length=sz)->cR S w b o es.flatten->gX S w b sz o es
 | [],_,_,_,_,_=>by simp[gX]
 | x::r,o,b,sz,hl,h=>by
   rw[List.flatten_cons,rS]at h;have u:=hl x (by simp);rw[u]at h;simp only[gX];exact⟨u,h.1,pE r _ (fun cs E=>hl cs (by simp[E])) h.2⟩
theorem nO:∀(es:List (List AV)) {sz:Nat},(∀cs∈es,cs.length=sz)->es.flatten.length=es.length*sz
 | [],_,_=>by simp
 | x::r,sz,hl=>by
   rw[List.flatten_cons,List.length_append,hl x (by simp),nO r (fun cs u=>hl cs (by simp[u])),List.length_cons,Nat.add_mul];omega
theorem gQ:∀(x:List AV) (l:List Value),bG S w x l->l.length=x.length
 | [],l,h=>by simp only[bG]at h;simp[h]
 | x::r,l,h=>by
   simp only[bG]at h;obtain⟨u,t,rfl,_,E⟩:=h;simp[gQ r t E]
theorem BC:∀(x:List AV) (l:List Value) (j:Nat),bG S w x l->j<x.length->∃u,l[j]?=some u/\rep S w (x.getD j .any) u
 | [],_,_,_,h=>by simp at h
 | x::r,l,j,h,hj=>by
   simp only[bG]at h;obtain⟨u,t,rfl,h1,E⟩:=h;cases j with
   | zero=>exact⟨u,by simp,by simpa using h1⟩
   | succ j=>
     obtain⟨v,F,I⟩:=BC r t j E (by simpa using hj);exact⟨v,by simpa using F,by simpa using I⟩
theorem dI:∀(x y:List AV) (l m:List Value),bG S w x l->bG S w y m->bG S w (x++y) (l++m)
 | [],y,l,m,h,h'=>by simp only[bG]at h;subst h;simpa using h'
 | x::r,y,l,m,h,h'=>by
   simp only[bG]at h;obtain⟨u,t,rfl,h1,E⟩:=h;simp only[List.cons_append,bG];exact⟨u,t++m,rfl,h1,dI r y t m E h'⟩
theorem uQ:∀(x:List AV) (l:List Value) (j:Nat),bG S w x l->bG S w (x.drop j) (l.drop j)
 | [],l,j,h=>by simp only[bG]at h;subst h;simp[bG]
 | x::r,l,j,h=>by
   cases j with
   | zero=>simpa using h
   | succ j=>
     simp only[bG]at h;obtain⟨u,t,rfl,_,E⟩:=h;simpa using uQ r t j E
theorem qN:∀(x:List AV) (l:List Value) (j:Nat),bG S w x l->bG S w (x.take j) (l.take j)
 | [],l,j,h=>by simp only[bG]at h;subst h;simp[bG]
 | x::r,l,j,h=>by
   cases j with
   | zero=>simp[bG]
   | succ j=>
     simp only[bG]at h;obtain⟨u,t,rfl,h1,E⟩:=h;simp only[List.take_succ_cons,bG];exact⟨u,t.take j,rfl,h1,qN r t j E⟩
theorem iT:∀(x:List AV) (l:List Value) (o:Nat) {b:Nat},bG S w x l->(∀u∈l,u.oneCell'=true)->(∀j u,l[j]?=some u->w.cell? ⟨b,o+j,none⟩=some u)->cR S w b o x
 | [],_,_,_,_,_,_=>by simp[cR]
 | x::r,l,o,b,h,h1,hc=>by
   simp only[bG]at h;obtain⟨u,t,rfl,F,I⟩:=h;simp only[cR];refine⟨⟨u,by simpa using hc 0 u (by simp),h1 u (by simp),F⟩,iT r t (o+1) I (fun v E=>h1 v (by simp[E])) fun j v E=>?_⟩;rw[show o+1+j=o+(j+1)by omega];exact hc (j+1) v (by simpa using E)
end
end Go.Aw
end
section
namespace Go.Aw
open Go.RowKit
def kJ(S:Sg)(w:World):Nat->List (List AV)->List MapEntry->Prop
 | _,[],ms=>ms=[]
 | i,cs::r,ms=>∃m t,ms=m::t/\m.born=i/\bG S w cs [m.key,m.val]/\kJ S w (i+1) r t
def J6(S:Sg)(w:World)(k:Nat)(r:Row):Prop:=∃xs,w.ownsRow 0 r.e r.sz (S.loc k) r.es.length xs/\bG S w r.es.flatten xs/\∀u∈xs,u.oneCell'=true
def YG(S:Sg)(w:World)(k:Nat)(r:Row):Prop:=∃g ms,S.loc k=.map (some g)/\w.heap[g]?=some (.map (List.toArray ms) ms.length)/\kJ S w 0 r.es ms/\r.sz=2
theorem aiM(a:Option Addr)(n c:Nat):blk (.slice a n c)=(Value.slice a n c).ownBlock:=by cases a <;> rfl
structure RowOK(S:Sg)(w:World)(k:Nat)(r:Row):Prop where
 lt:k<S.N
 sz:r.sz=S.sz k
 pos:0<r.sz
 len:∀cs∈r.es,cs.length=r.sz
 own:J6 S w k r\/YG S w k r
def yV(S:Sg)(w:World)(H:aH):Prop:=∀k r,H k=some r->RowOK S w k r
theorem RowOK.sl{S:Sg}{w:World}{k:Nat}{r:Row}(h:RowOK S w k r){a:Option Addr}{n c:Nat}(u:S.loc k=.slice a n c):J6 S w k r:=by
 rcases h.own with h1|⟨g,ms,h1,_⟩
 . exact h1
 . rw[u]at h1;cases h1
theorem RowOK.mp{S:Sg}{w:World}{k:Nat}{r:Row}(h:RowOK S w k r){g:Nat}(E:S.loc k=.map (some g)):YG S w k r:=by
 rcases h.own with⟨xs,u,_⟩|h1
 . rcases u.2 with⟨hv,_⟩|⟨_,_,_,hv,_⟩ <;> (rw[E]at hv;cases hv)
 . exact h1
structure Agree(S:Sg)(H:aH)(w w':World):Prop where
 kept:fG S w w'
 own:∀k r,H k=some r->∀g,blk (S.loc k)=some g->w'.heap[g]?=w.heap[g]?
theorem Agree.refl(S:Sg)(H:aH)(w:World):Agree S H w w:=⟨fG.refl S w,fun _ _ _ _ _=>rfl⟩
def wD(P:Program)(S:Sg)(H:aH)(w:World)(z:AV)(e:Sem Value):Prop:=
 ∃v,rep S w z v/\∀w',Agree S H w w'->e.run P w'=.ok v w'
section
variable{P:Program}{S:Sg}{H:aH}{w:World}{G:Option Bool}{K:AV->Prop}
theorem kV{x:Value}:rep S w (.v x) x:=by simp only[rep]
theorem tV{t:TypeId}{l:Option Nat}(h:ldT P t=some l):∃d,P.underlying t=some d /\
   match l with
   | none=>(∀fs,d≠.struct fs)/\∀n e,d≠.array n e
   | some n=>((∃fs,d=.struct fs)\/∃m e,d=.array m e)/\∃i,P.info? t=some i/\i.size=n:=by
 unfold ldT at h;cases E:P.underlying t with
 | none=>rw[E]at h;simp at h
 | some d=>
   refine⟨d,rfl,?_⟩;rw[E]at h;cases u:P.info? t with
   | none=>rw[u]at h;cases d <;> simp at h
   | some i=>
     rw[u]at h;cases d <;> simp at h <;> subst h <;> simp
theorem qM{t:TypeId}{l:Option Nat}(h:ldT P t=some l)(w:World):(isAgg t).run P w=.ok l.isSome w:=by
 obtain⟨d,u,E⟩:=tV h;cases l with
 | none=>
   obtain⟨h1,F⟩:=E;simp only[isAgg,Sem.run_bind,run_underlying u,Result.andThen];cases d <;> simp_all
 | some n=>
   obtain⟨h1,_⟩:=E;simp only[isAgg,Sem.run_bind,run_underlying u,Result.andThen];rcases h1 with⟨fs,rfl⟩|⟨m,e,rfl⟩ <;> simp
theorem tP{t:TypeId}{n:Nat}(h:ldT P t=some (some n))(w:World):(sizeOf t).run P w=.ok n w:=by
 obtain⟨d,F,E⟩:=tV h;obtain⟨_,i,u,rfl⟩:=E;simp[sizeOf,typeInfo,u]
theorem wX{t:TypeId}(h:ldT P t=some none){a:Addr}{v:Value}(u:w.cell? a=some v):(loadVar t a).run P w=.ok v w:=by
 simp[loadVar,qM h,u]
theorem uM{t:TypeId}{l:List Value}(h:ldT P t=some (some l.length)){b o:Nat}(E:∀j v,l[j]?=some v->w.cell? ⟨b,o+j,none⟩=some v):
   (loadVar t ⟨b,o,none⟩).run P w=.ok (.agg l.toArray) w:=by
 have:=run_loadCells_list (P:=P) w ⟨b,o,none⟩ l (fun j v u=>by rw[Addr.add_lit];exact E j v u);simp[loadVar,qM h,tP h,this]
theorem RowOK.cells{k:Nat}{r:Row}(h:RowOK S w k r){a0:Option Addr}{Z O:Nat}(T:S.loc k=.slice a0 Z O)(E:r.es≠[]):∃g n c,S.loc k=.slice (some ⟨g,0,none⟩) n c/\cR S w g 0 r.es.flatten/\n=r.es.length:=by
 obtain⟨xs,F,J,h1⟩:=h.sl T;rcases F.2 with⟨_,hn⟩|⟨g,cap,cur,I,_⟩
 . exact absurd (List.eq_nil_of_length_eq_zero hn) E
 . refine⟨g,_,cap,I,?_,rfl⟩
   refine iT _ xs 0 J h1 fun j u M=>?_
   have:=F.cells (g:=g) (by rw[I];rfl) j u M
   rwa [Addr.add_lit]at this
theorem RowOK.els{k:Nat}{r:Row}(h:RowOK S w k r){O:Option Addr}{I J:Nat}(M:S.loc k=.slice O I J)(u:r.es≠[]):∃g n c,S.loc k=.slice (some ⟨g,0,none⟩) n c/\gX S w g r.sz 0 r.es/\n=r.es.length:=by
 obtain⟨g,n,c,h1,E,F⟩:=h.cells M u;exact⟨g,n,c,h1,pE _ _ h.len E,F⟩
theorem Agree.cell{w':World}(E:Agree S H w w'){b o:Nat}{u:Value}(F:S.ro b)(h:w.cell? ⟨b,o,none⟩=some u):w'.cell? ⟨b,o,none⟩=some u:=(E.kept.cell F).trans h
theorem Agree.cellOwn{w':World}(E:Agree S H w w'){k g n c o:Nat}{r:Row}{u:Value}(F:H k=some r)(I:S.loc k=.slice (some ⟨g,0,none⟩) n c)(h:w.cell? ⟨g,o,none⟩=some u):w'.cell? ⟨g,o,none⟩=some u:=by
 have:=E.own k r F g (by rw[I];rfl);exact(World.cell?_of_block (a:=⟨g,o,none⟩) this).trans h
theorem DG{t:TypeId}{l:Option Nat}{x:AV}(hl:ldT P t=some l)(hH:yV S w H)(h:nP G H l x K):
   ∃z,K z/\(gt G->∀u,rep S w x u->wD P S H w z (Instr.loadAt t u)):=by
 unfold nP at h;split at h
 . rename_i cs off
   cases l with
   | none=>
     refine⟨_,h.2,fun O u J=>?_⟩;simp only[rep]at J;obtain⟨b,o,rfl,hb,hc⟩:=J;obtain⟨v,h1,_,h3⟩:=xP cs o off hc (h.1 O);refine⟨v,h3,fun w' Z=>?_⟩;simp[Instr.loadAt,Instr.sureAddr,wX hl (Z.cell hb h1)]
   | some n=>
     refine⟨_,h.2,fun O u J=>?_⟩;simp only[rep]at J;obtain⟨b,o,rfl,hb,hc⟩:=J;obtain⟨l,I,e2,e3,e4⟩:=lO _ _ (vL _ _ n (vI cs o off hc));have aa:=h.1 O;have hn:l.length=n:=by rw[I];simp;omega
     refine⟨.agg l.toArray,by simp only[rep];exact⟨l,rfl,e2,e3⟩,fun w' Z=>?_⟩;rw[<-hn]at hl;simp[Instr.loadAt,Instr.sureAddr,uM hl (fun j v hj=>Z.cell hb (e4 j v hj))]
 . rename_i k i f
   split at h
   . rename_i r hk
     have hr:=hH k r hk;cases l with
     | none=>
       refine⟨_,h.2,fun O u J=>?_⟩;simp only[rep]at J;obtain⟨_,g,n,c,E,rfl⟩:=J;obtain⟨M,hf⟩:=h.1 O;have T:r.es≠[]:=fun e=>by rw[e]at M;simp at M
       obtain⟨g',n',c',F,he,_⟩:=hr.els E T;rw[E]at F;injection F with I e2 e3;injection I with I;injection I with I;subst I;obtain⟨e4,e5⟩:=qT _ 0 i he M;obtain⟨v,h1,_,h3⟩:=xP _ _ f e5 (by rw[e4];exact hf);refine⟨v,h3,fun w' Z=>?_⟩;rw[<-hr.sz];rw[Nat.zero_add]at h1;simp[Instr.loadAt,Instr.sureAddr,wX hl (Z.cellOwn hk E h1)]
     | some m=>
       refine⟨_,h.2,fun O u J=>?_⟩;simp only[rep]at J;obtain⟨_,g,n,c,E,rfl⟩:=J;obtain⟨M,hf⟩:=h.1 O;have T:r.es≠[]:=fun e=>by rw[e]at M;simp at M
       obtain⟨g',n',c',F,he,_⟩:=hr.els E T;rw[E]at F;injection F with I e2 e3;injection I with I;injection I with I;subst I;obtain⟨e4,e5⟩:=qT _ 0 i he M;obtain⟨l,I,e2,e3,e6⟩:=lO _ _ (vL _ _ m (vI _ _ f e5));have hn:l.length=m:=by rw[I,List.length_take,List.length_drop,e4];omega
       refine⟨.agg l.toArray,by simp only[rep];exact⟨l,rfl,e2,e3⟩,fun w' Z=>?_⟩;rw[<-hn]at hl;rw[<-hr.sz];rw[Nat.zero_add]at e6;simp[Instr.loadAt,Instr.sureAddr,uM hl (fun j v hj=>Z.cellOwn hk E (e6 j v hj))]
   . exact h.elim
 . exact h.elim
theorem nH{t:TypeId}(h:ldT P t=some none){l:List Value}{o:Nat}{u:Value}(E:l[o]?=some u):(part t l.toArray o).run P w=.ok u w:=by
 simp[part,qM h,E]
theorem Gx{t:TypeId}{n:Nat}(h:ldT P t=some (some n)){l:List Value}{o:Nat}:(part t l.toArray o).run P w=.ok (.agg ((l.drop o).take n).toArray) w:=by
 simp[part,qM h,tP h,List.extract_eq_take_drop]
theorem DS{t:TypeId}{l:Option Nat}{x:AV}{off:Nat}(I:ldT P t=some l)(h:apart G off l x K):
   ∃z,K z/\(gt G->∀u,rep S w x u->∃cs:Array Value,u=.agg cs/\wD P S H w z (part t cs off)):=by
 unfold apart at h;split at h
 . rename_i cs
   cases l with
   | none=>
     refine⟨_,h.2,fun F u E=>?_⟩;simp only[rep]at E;obtain⟨l,rfl,h1,_⟩:=E;obtain⟨v,O,M⟩:=BC cs l off h1 (h.1 F);exact⟨_,rfl,v,M,fun w' _=>nH I O⟩
   | some n=>
     refine⟨_,h.2,fun F u E=>?_⟩;simp only[rep]at E;obtain⟨l,rfl,h1,J⟩:=E;refine⟨_,rfl,_,?_,fun w' _=>Gx I⟩;simp only[rep];exact⟨_,rfl,qN _ _ n (uQ _ _ off h1),fun u E=>J u (List.mem_of_mem_drop (List.mem_of_mem_take E))⟩
 . exact h.elim
theorem Af{t:TypeId}{f o:Nat}{l:Option Nat}(h:aM P t f=some (o,l)):
   ∃fs u i,P.underlying t=some (.struct fs)/\fs[f]?=some u/\u.offset=o/\P.info? u.type=some i/\i.size≠0/\ldT P u.type=some l:=by
 unfold aM at h;cases J:P.underlying t with
 | none=>simp[J]at h
 | some d=>
   cases d <;> simp only[J]at h <;> try (simp at h;done)
   rename_i fs
   cases F:fs[f]? with
   | none=>simp[F]at h
   | some u=>
     simp only[F]at h;cases E:P.info? u.type with
     | none=>simp[E]at h
     | some i=>
       simp only[E]at h;split at h
       . simp at h
       . rename_i M
         cases I:ldT P u.type with
         | none=>simp[I]at h
         | some l'=>
           simp[I]at h;obtain⟨rfl,rfl⟩:=h;exact⟨fs,u,i,rfl,F,rfl,E,M,I⟩
theorem Dl{t:TypeId}{f o:Nat}{l:Option Nat}(h:aM P t f=some (o,l))(b p:Nat)(w:World):
   (Instr.fieldAt t (.pointer (some ⟨b,p,none⟩)) f).run P w=.ok (.pointer (some ⟨b,p+o,none⟩)) w:=by
 obtain⟨fs,J,i,F,I,rfl,E,u,_⟩:=Af h;simp[Instr.fieldAt,run_underlying F,I,Instr.sureAddr,fieldPlace,sizeOf,typeInfo,E,u,Addr.add_lit]
theorem Dd{t:TypeId}{f:Nat}{x:AV}(h:jH P t f x K):
   ∃z,K z/\(gt G->∀u,rep S w x u->wD P S H w z (Instr.fieldAt t u f)):=by
 unfold jH at h;split at h
 . rename_i cs off
   split at h
   . rename_i o l F
     refine⟨_,h,fun _ u E=>?_⟩;simp only[rep]at E;obtain⟨b,p,rfl,M,J⟩:=E;refine⟨_,?_,fun w' _=>Dl F b (p+off) w'⟩;simp only[rep];exact⟨b,p,by rw[Nat.add_assoc],M,J⟩
   . exact h.elim
 . rename_i k i g
   split at h
   . rename_i o l F
     refine⟨_,h,fun _ u E=>?_⟩;simp only[rep]at E;obtain⟨h1,b,n,c,I,rfl⟩:=E;refine⟨_,?_,fun w' _=>Dl F b _ w'⟩;simp only[rep];exact⟨h1,b,n,c,I,by rw[Nat.add_assoc]⟩
   . exact h.elim
 . exact h.elim
theorem iN{t:TypeId}{e sz u:Nat}(h:bW P t=some (e,sz,u)):
   ∃i z,P.underlying t=some (.slice e)/\P.info? e=some i/\i.size=sz/\i.bytes=u/\0<sz/\0<u/\i.zero=some z/\z.cells.size=sz:=by
 unfold bW at h;cases M:P.underlying t with
 | none=>simp[M]at h
 | some d=>
   cases d <;> simp only[M]at h <;> try (simp at h;done)
   rename_i O
   cases I:P.info? O with
   | none=>simp[I]at h
   | some i=>
     simp only[I]at h;split at h
     . simp at h
     . rename_i J
       simp at h;obtain⟨rfl,rfl,rfl⟩:=h;simp only[not_or,ne_eq,Decidable.not_not]at J;obtain⟨h1,T,F⟩:=J;cases E:i.zero with
       | none=>simp[E]at F
       | some z=>
         simp[E]at F;exact⟨i,z,rfl,I,rfl,rfl,by omega,by omega,E,F⟩
theorem Ij{t:TypeId}{n s:Nat}{l:Option Nat}(h:tI P t=some (n,s,l)):
   ∃e i,P.underlying t=some (.array n e)/\P.info? e=some i/\i.size=s/\s≠0/\ldT P e=some l:=by
 unfold tI at h;cases F:P.underlying t with
 | none=>simp[F]at h
 | some d=>
   cases d <;> simp only[F]at h <;> try (simp at h;done)
   rename_i m e
   cases u:P.info? e with
   | none=>simp[u]at h
   | some i=>
     simp only[u]at h;split at h
     . simp at h
     . rename_i I
       cases E:ldT P e with
       | none=>simp[E]at h
       | some l'=>
         simp[E]at h;obtain⟨rfl,rfl,rfl⟩:=h;exact⟨e,i,rfl,u,rfl,I,E⟩
theorem yB{t:TypeId}{e sz u:Nat}(h:bW P t=some (e,sz,u))(b o len cap:Nat)(k:IntKind)(i:Int)(h0:0<=i)(h1:i<len)(w:World):
   (Instr.indexAt t (.slice (some ⟨b,o,none⟩) len cap) (.int k i)).run P w=.ok (.pointer (some ⟨b,o+i.toNat*sz,none⟩)) w:=by
 obtain⟨E,z,F,I,rfl,_⟩:=iN h;simp[Instr.indexAt,run_underlying F,asIntOf,h0,h1,sizeOf,typeInfo,I,Addr.add_lit]
theorem wU{t:TypeId}{n s:Nat}{l:Option Nat}(h:tI P t=some (n,s,l))(b o:Nat)(k:IntKind)(i:Int)(h0:0<=i)(h1:i<n)(w:World):
   (Instr.indexAt t (.pointer (some ⟨b,o,none⟩)) (.int k i)).run P w=.ok (.pointer (some ⟨b,o+i.toNat*s,none⟩)) w:=by
 obtain⟨e,u,F,E,rfl,_⟩:=Ij h;simp[Instr.indexAt,run_underlying F,asIntOf,h0,h1,Instr.sureAddr,sizeOf,typeInfo,E,Addr.add_lit]
theorem CA{t:TypeId}{x i:AV}(hH:yV S w H)(h:fO P G H t x i K):
   ∃z,K z/\(gt G->∀u v,rep S w x u->rep S w i v->wD P S H w z (Instr.indexAt t u v)):=by
 unfold fO at h;split at h
 . rename_i es k n
   split at h
   . rename_i e sz O he
     refine⟨_,h.2,fun T u v F J=>?_⟩;obtain⟨⟨h0,h1⟩,h2⟩:=h.1 T;simp only[rep]at F J;subst J;obtain⟨ad,m,c,rfl,e1,_,_,e2⟩:=F;rcases e2 with rfl|⟨b,o,aa,rfl,hb,_,Z⟩
     . simp at h1;omega
     . have I:n.toNat<es.length:=by omega
       obtain⟨e3,e4⟩:=qT es o n.toNat Z I;have ab:aa=sz:=by rw[<-e3,h2]
       subst ab;refine⟨_,?_,fun w' _=>yB he b o m c k n h0 (by omega) w'⟩;simp only[rep];exact⟨b,_,by rw[Nat.add_zero],hb,e4⟩
   . exact h.elim
 . rename_i k ik n
   split at h
   . rename_i r e sz O hk he
     refine⟨_,h.2,fun T u v F J=>?_⟩;obtain⟨⟨h0,h1⟩,h2⟩:=h.1 T;have hr:=hH k r hk;have ac:r.es≠[]:=fun e=>by rw[e]at h1;simp at h1;omega
     simp only[rep]at F J;subst J;obtain⟨I,rfl,_,_,_,M⟩:=F;obtain⟨g,m,c,E,_,hm⟩:=hr.els M ac;rw[E];refine⟨_,?_,fun w' _=>yB he g 0 m c ik n h0 (by omega) w'⟩;simp only[rep];exact⟨I,g,m,c,E,by rw[<-hr.sz,h2];simp⟩
   . exact h.elim
 . rename_i cs off k n
   split at h
   . rename_i m s l ha
     refine⟨_,h.2,fun T u v F J=>?_⟩;obtain⟨h0,h1⟩:=h.1 T;simp only[rep]at F J;subst J;obtain⟨b,o,rfl,hb,hc⟩:=F;refine⟨_,?_,fun w' _=>wU ha b (o+off) k n h0 h1 w'⟩;simp only[rep];exact⟨b,o,by rw[Nat.add_assoc],hb,hc⟩
   . exact h.elim
 . rename_i k j f ik n
   split at h
   . rename_i m s l ha
     refine⟨_,h.2,fun T u v F J=>?_⟩;obtain⟨h0,h1⟩:=h.1 T;simp only[rep]at F J;subst J;obtain⟨I,g,n',c,E,rfl⟩:=F;refine⟨_,?_,fun w' _=>wU ha g _ ik n h0 h1 w'⟩;simp only[rep];exact⟨I,g,n',c,E,by rw[Nat.add_assoc]⟩
   . exact h.elim
 . exact h.elim
theorem xZ{t:TypeId}(h:cL P t=true):∃e,P.underlying t=some (.slice e):=by
 unfold cL at h;split at h
 . rename_i e u;exact⟨e,u⟩
 . simp at h
theorem fN{t:TypeId}(h:dY P t=true):P.underlying t=some .string:=by
 unfold dY at h;split at h
 . rename_i u;exact u
 . simp at h
theorem Qt{t:TypeId}(h:zS P t=true):P.underlying t=some .bool:=by
 unfold zS at h;split at h
 . rename_i u;exact u
 . simp at h
theorem ER{t ty:TypeId}{x:AV}(T:yV S w H)(h:GW P H t x K):
   ∃z,K z/\(gt G->∀u,rep S w x u->wD P S H w z (Builtin.len_ #[t] ty #[u])):=by
 unfold GW at h;split at h
 . rename_i es
   split at h
   . rename_i I
     obtain⟨e,J⟩:=xZ I;refine⟨_,h,fun _ u E=>?_⟩;simp only[rep]at E;obtain⟨ad,m,c,rfl,e1,_⟩:=E;refine⟨_,kV,fun w' _=>?_⟩;simp[Builtin.len_,run_underlying J,goInt,e1]
   . exact h.elim
 . rename_i k
   split at h
   . rename_i r Z
     split at h
     . rename_i I
       obtain⟨e,J⟩:=xZ I;refine⟨_,h,fun _ u E=>?_⟩;simp only[rep]at E;obtain⟨_,rfl,_,_,_,F⟩:=E;obtain⟨xs,O,_⟩:=(T k r Z).sl F;refine⟨_,kV,fun w' _=>?_⟩;rcases O.2 with⟨M,hn⟩|⟨g,cap,cur,M,_⟩
       . simp[Builtin.len_,run_underlying J,goInt,M,hn]
       . simp[Builtin.len_,run_underlying J,goInt,M]
     . exact h.elim
   . exact h.elim
 . rename_i s
   split at h
   . rename_i I
     refine⟨_,h,fun _ u E=>?_⟩;simp only[rep]at E;subst E;refine⟨_,kV,fun w' _=>?_⟩;simp[Builtin.len_,run_underlying (fN I),goInt]
   . exact h.elim
 . exact h.elim
theorem Gp{x y:AV}{tys:Array TypeId}{ty:TypeId}(h:QT x y K):
   ∃z,K z/\(gt G->∀u v,rep S w x u->rep S w y v->wD P S H w z (Builtin.max_ tys ty #[u,v])):=by
 unfold QT at h;split at h
 . refine⟨_,h,fun _ u v F E=>?_⟩
   simp only[rep]at F E;subst F;subst E;exact⟨_,kV,fun w' _=>by simp[Builtin.max_,Builtin.max2,kF]⟩
 . exact h.elim
theorem Gl{x y:AV}{tys:Array TypeId}{ty:TypeId}(h:Pw x y K):
   ∃z,K z/\(gt G->∀u v,rep S w x u->rep S w y v->wD P S H w z (Builtin.min_ tys ty #[u,v])):=by
 unfold Pw at h;split at h
 . refine⟨_,h,fun _ u v F E=>?_⟩
   simp only[rep]at F E;subst F;subst E;exact⟨_,kV,fun w' _=>by simp[Builtin.min_,Builtin.min2,Z1]⟩
 . exact h.elim
end
end Go.Aw
end
section
namespace Go.Aw
open Go.RowKit
section
variable{P:Program}{S:Sg}{H:aH}{w:World}{G:Option Bool}{K:AV->Prop}
theorem iG{z:AV}{e:Sem Value}{v:Value}(u:rep S w z v)(h:∀w',e.run P w'=.ok v w'):wD P S H w z e:=⟨v,u,fun w' _=>h w'⟩
theorem lE{t:TypeId}{c:Nat}(h:sF P t=some c):(c=0/\∃k,P.underlying t=some (.int k))\/(c=1/\P.underlying t=some .string)\/(c=2/\P.underlying t=some .bool):=by
 unfold sF at h;split at h <;> simp_all
theorem Sk{t:TypeId}{c:Nat}(h:sF P t=some c)(u:(P.info? t).isSome=true):ldT P t=some none:=by
 obtain⟨i,u⟩:=Option.isSome_iff_exists.1 u;unfold ldT;rw[u];rcases lE h with⟨_,k,hk⟩|⟨_,hk⟩|⟨_,hk⟩ <;> rw[hk]
theorem uC{t:TypeId}{c:Nat}{x y:AV}{u v:Value}{b:Bool}{d:Nat}(J:sF P t=some c)(h:tN c x y=some b)(I:rep S w x u)(F:rep S w y v)(w':World):
   (Op.equalIn (d+1) t u v).run P w'=.ok b w':=by
 unfold tN at h;split at h
 . split at h
   . simp only[rep]at I F
     subst I F
     rename_i M
     subst M;simp at h;rcases lE J with⟨_,k',E⟩|⟨h0,_⟩|⟨h0,_⟩
     . rw[run_equalIn_int w' d t _ k' _ _ E,h]
     . simp at h0
     . simp at h0
   . simp at h
 . simp only[rep]at I F
   subst I F;rcases lE J with⟨h0,_⟩|⟨_,E⟩|⟨h0,_⟩
   . simp at h0
   . rw[run_equalIn_string w' d t _ _ E]
     injection h with h;rw[h]
   . simp at h0
 . simp only[rep]at I F
   subst I F;rcases lE J with⟨h0,_⟩|⟨h0,_⟩|⟨_,E⟩
   . simp at h0
   . simp at h0
   . rw[run_equalIn_bool' w' d t _ _ E]
     injection h with h;rw[h]
 . simp at h
theorem sW:∀(fs:List Field) (l:List Nat) (xs ys:List AV) (o:Nat) (us vs pu pv:List Value) (b:Bool) (d:Nat),
   oQ P o fs=some l->gW l xs ys=some b->bG S w xs us->bG S w ys vs->pu.length=o->pv.length=o->∀w':World,
   (Op.eqFields (d+1) (pu++us).toArray (pv++vs).toArray fs).run P w'=.ok b w'
 | [],l,xs,ys,o,us,vs,pu,pv,b,d,E,he,_,_,_,_,w'=>by
   simp only[oQ]at E;injection E with E;subst E;cases xs <;> cases ys <;> simp[gW]at he;subst he;simp[Op.eqFields]
 | f::fs,l,xs,ys,o,us,vs,pu,pv,b,d,E,he,hx,hy,e1,e2,w'=>by
   simp only[oQ]at E;split at E
   . rename_i hc
     simp only[Bool.and_eq_true,bne_iff_ne,ne_eq,beq_iff_eq]at hc;obtain⟨⟨hn,ho⟩,hi⟩:=hc;cases M:sF P f.type with
     | none=>simp[M]at E
     | some c=>
       cases hr:oQ P (o+1) fs with
       | none=>simp[M,hr]at E
       | some l'=>
         simp[M,hr]at E;subst E;cases xs with
         | nil=>simp[gW]at he
         | cons x xs=>
           cases ys with
           | nil=>simp[gW]at he
           | cons y ys=>
             simp only[gW]at he;cases F:tN c x y with
             | none=>simp[F,Nx]at he
             | some b1=>
               cases I:gW l' xs ys with
               | none=>simp[F,I,Nx]at he
               | some b2=>
                 simp[F,I,Nx]at he;simp only[bG]at hx hy;obtain⟨u,T,rfl,hu,Z⟩:=hx;obtain⟨v,O,rfl,hv,aa⟩:=hy;have J:=Sk M hi;have p1:∀w':World,(part f.type (pu++u::T).toArray f.offset).run P w'=.ok u w':=fun w'=>nH (w:=w') J (by rw[ho,<-e1];simp)
                 have p2:∀w':World,(part f.type (pv++v::O).toArray f.offset).run P w'=.ok v w':=fun w'=>nH (w:=w') J (by rw[ho,<-e2];simp)
                 have q:=uC (d:=d) M F hu hv;have ih:=sW fs l' xs ys (o+1) T O (pu++[u]) (pv++[v]) b2 d hr I Z aa (by simp[e1]) (by simp[e2]) w';simp only[List.append_assoc,List.singleton_append]at ih;simp only[Op.eqFields,hn,ne_eq,not_false_eq_true,if_true,Sem.run_bind,p1,p2,q,Result.andThen_ok,Sem.run_ite];subst he;cases b1
                 . simp
                 . simp only[Bool.not_true,Bool.false_eq_true,if_false,Bool.true_and]
                   exact ih
   . simp at E
theorem BU{e:TypeId}{c:Nat}(T:sF P e=some c)(hi:(P.info? e).isSome=true){d:Nat}:∀(m i:Nat) (xs ys:List AV) (us vs pu pv:List Value) (b:Bool),
   gW (List.replicate m c) xs ys=some b->bG S w xs us->bG S w ys vs->pu.length=i->pv.length=i->∀w':World,
   ((forIn (m := Sem) (List.range' i m) ((none, ()) : Option Bool × Unit) (fun i _ => do
         if !(<-Op.equalIn (d+1) e (<-part e (pu++us).toArray (i*1)) (<-part e (pv++vs).toArray (i*1)))then pure (ForInStep.done (some false,()))
         else pure (ForInStep.yield (none,())))).run P w').andThen (fun r w'=>Sem.run P (match r.1 with
       | some x=>pure x
       | none=>pure true:Sem Bool) w')=.ok b w'
 | 0,i,xs,ys,us,vs,pu,pv,b,he,_,_,_,_,w'=>by
   cases xs <;> cases ys <;> simp[gW]at he;subst he;simp
 | m+1,i,xs,ys,us,vs,pu,pv,b,he,hx,hy,e1,e2,w'=>by
   rw[List.replicate_succ]at he;cases xs with
   | nil=>simp[gW]at he
   | cons x xs=>
     cases ys with
     | nil=>simp[gW]at he
     | cons y ys=>
       simp only[gW]at he;cases E:tN c x y with
       | none=>simp[E,Nx]at he
       | some b1=>
         cases F:gW (List.replicate m c) xs ys with
         | none=>simp[E,F,Nx]at he
         | some b2=>
           simp[E,F,Nx]at he;simp only[bG]at hx hy;obtain⟨u,M,rfl,hu,O⟩:=hx;obtain⟨v,J,rfl,hv,Z⟩:=hy;have I:=Sk T hi;have p1:∀w':World,(part e (pu++u::M).toArray (i*1)).run P w'=.ok u w':=fun w'=>nH (w:=w') I (by rw[Nat.mul_one,<-e1];simp)
           have p2:∀w':World,(part e (pv++v::J).toArray (i*1)).run P w'=.ok v w':=fun w'=>nH (w:=w') I (by rw[Nat.mul_one,<-e2];simp)
           have q:=uC (d:=d) T E hu hv;have ih:=BU T hi (d:=d) m (i+1) xs ys M J (pu++[u]) (pv++[v]) b2 F O Z (by simp[e1]) (by simp[e2]) w';simp only[List.append_assoc,List.singleton_append]at ih;simp only[List.range'_succ,List.forIn_cons,Sem.run_bind,p1,p2,q,Result.andThen_ok,Sem.run_ite,bind_assoc];subst he;cases b1
           . simp
           . simp only[Bool.not_true,Bool.false_eq_true,if_false,Bool.true_and,Sem.run_pure,Result.andThen_ok]
             exact ih
theorem C5{t:TypeId}{l:List Nat}(h:wS P t=some l){xs I:List AV}{b:Bool}(Z:gW l xs I=some b){J vs:List Value}
   (hx:bG S w xs J) (hy:bG S w I vs) (d:Nat) (w':World):(Op.equalIn (d+2) t (.agg J.toArray) (.agg vs.toArray)).run P w'=.ok b w':=by
 unfold wS at h;split at h
 . rename_i fs F
   split at h
   . rename_i E
     have hf:P.fieldsOf t=fs:=by unfold Program.fieldsOf;rw[F]
     rw[run_equalIn_struct w' (d+1) t _ _ (by rw[hf];exact F) E.1,hf];simpa using sW fs.toList l xs I 0 J vs [] [] b d h Z hx hy rfl rfl w'
   . simp at h
 . rename_i n e F
   split at h
   . rename_i E
     cases T:sF P e with
     | none=>simp[T]at h
     | some c=>
       simp[T]at h;subst h;cases M:P.info? e with
       | none=>simp[M]at E
       | some i=>
         have O:i.size=1:=by simpa[M]using E.1
         have u:=BU (P:=P) (S:=S) (w:=w) T (by simp[M]) (d:=d) n 0 xs I J vs [] [] b Z hx hy rfl rfl w';simp only[List.nil_append]at u;rw[Op.equalIn];simp only[Sem.run_bind,run_underlying F,Result.andThen_ok,sizeOf,typeInfo,run_program,M,Sem.run_pure,O];rw[Std.Legacy.Range.forIn_eq_forIn_range'];simp only[Std.Legacy.Range.size,Nat.sub_zero,Nat.add_one_sub_one,Nat.div_one];have e:∀(r:Result (Option Bool×Unit)) (f g:Option Bool×Unit->World->Result Bool),(∀a w,f a w=g a w)->r.andThen f=r.andThen g:=fun r f g h=>by cases r <;> simp[Result.andThen,h]
         exact(e _ _ _ (fun a w=>by rcases a with⟨a,_⟩;cases a <;> rfl)).trans u
   . simp at h
 . simp at h
theorem iX(op:BinOp)(t:TypeId)(x y:Operand)(a b:Value)(h1:a≠.nilIface)(u:∀cs,a≠.agg cs)(w':World):(eqGuard op t x y a b).run P w'=.ok () w':=by
 cases op <;> simp only[eqGuard] <;> (try rfl) <;> cases a <;> first|rfl|(exact absurd rfl h1)|(exact absurd rfl (u _))
theorem Pq{t:TypeId}{l:List Nat}(h:wS P t=some l):P.eqGuardType P.depth t=false:=by
 unfold wS at h;split at h
 . split at h
   . rename_i u;exact u.2
   . simp at h
 . split at h
   . rename_i u;exact u.2
   . simp at h
 . simp at h
theorem PB{op:BinOp}{t:TypeId}{x y:AV}(h:gD P G op t x y K):
   ∃z,K z/\(gt G->∀u v,rep S w x u->rep S w y v->∀F J,wD P S H w z (do eqGuard op t F J u v;binOp op t u v)):=by
 unfold gD at h;split at h
 . rename_i k a k' b
   split at h
   . rename_i aa
     refine⟨_,h.2,fun O u v I M F J=>?_⟩;have T:=h.1 O;simp only[rep]at I M;subst I M;refine iG kV fun w'=>?_
     simp only[Sem.run_bind,iX op t F J (.int k a) (.int k' b) (by simp) (by simp) w',Result.andThen_ok];have ab:¬b<0:=by omega
     cases op <;> simp only[vD,Bool.false_eq_true]at aa <;> simp[binOp,Op.shift,ab,shV]
   split at h
   . rename_i hk
     subst hk;have E:∀(z:Value),(∀w',(binOp op t (.int k a) (.int k b)).run P w'=.ok z w')->∀u v,rep S w (.v (.int k a)) u->rep S w (.v (.int k b)) v->∀F J,wD P S H w (.v z) (do eqGuard op t F J u v;binOp op t u v):=by
       intro z hz u v I M F J;simp only[rep]at I M;subst I M;refine iG kV fun w'=>?_
       simp only[Sem.run_bind,iX op t F J (.int k a) (.int k b) (by simp) (by simp) w',Result.andThen_ok,hz]
     cases op <;> simp only at h <;> first
       | exact h.elim
       | (refine ⟨_, h, fun _ => E _ (fun w' => ?_)⟩
          first
            | (simp[binOp,Op.intArith,Op.intCmp];done)
            | (simp[binOp];rfl))
       | exact⟨_,h.2,fun O=>E _ (fun w'=>by simp[binOp,Op.intDiv,h.1 O])⟩
   . exact h.elim
 . rename_i a b
   have E:∀(z:Value),(∀w',(binOp op t (.string a) (.string b)).run P w'=.ok z w')->∀u v,rep S w (.v (.string a)) u->rep S w (.v (.string b)) v->∀F J,wD P S H w (.v z) (do eqGuard op t F J u v;binOp op t u v):=by
     intro z hz u v I M F J;simp only[rep]at I M;subst I M;refine iG kV fun w'=>?_
     simp only[Sem.run_bind,iX op t F J (.string a) (.string b) (by simp) (by simp) w',Result.andThen_ok,hz]
   cases op <;> simp only at h <;> first
     | exact h.elim
     | exact⟨_,h,fun _=>E _ (fun w'=>by simp[binOp,Op.stringOp])⟩
     | exact ⟨_, h.2, fun O => E _ (fun w' => by
         have:=h.1 O;have h2:¬((a.size+b.size:Nat):Int)>IntKind.i64.max:=by omega
         simp only[binOp,Op.stringOp];rw[if_neg h2];rfl)⟩
 . rename_i a b
   split at h
   . rename_i T
     have ad:=Qt T;cases op <;> simp only at h <;> first
       | exact h.elim
       | (refine ⟨_, h, fun _ u v I M F J => ?_⟩
          simp only[rep]at I M;subst I M;refine iG kV fun w'=>?_
          simp only[Sem.run_bind,iX _ t F J (.bool a) (.bool b) (by simp) (by simp) w',Result.andThen_ok];simp[binOp,run_equal_bool w' t a b ad])
   . exact h.elim
 . rename_i xs ys
   split at h
   . rename_i l hl
     split at h
     . rename_i b T
       cases op <;> simp only at h <;> first
         | exact h.elim
         | (refine ⟨_, h, fun _ u v I M F J => ?_⟩
            simp only[rep]at I M;obtain⟨us,rfl,Z,_⟩:=I;obtain⟨vs,rfl,ac,_⟩:=M;refine iG kV fun w'=>?_
            have q:=C5 hl T Z ac 9998 w';simp only[Sem.run_bind,run_eqGuard_agg _ _ _ _ _ _ _ (Pq hl),Result.andThen_ok]
            first
              | (rw[run_eql_struct,q];rfl)
              | (rw[run_neq_struct,q];rfl))
     . exact h.elim
   . exact h.elim
 . exact⟨_,h.2,fun O=>(h.1 O).elim⟩
end
end Go.Aw
end
section
namespace Go.Aw
open Go.RowKit
section
variable{P:Program}{S:Sg}{H:aH}{w:World}{G:Option Bool}{K:AV->Prop}
theorem iM{n:Nat}:∀{l:List (List AV)},cZ n l↔∀cs∈l,cs.length=n
 | []=>by simp[cZ]
 | x::r=>by simp[cZ,iM (l:=r)]
theorem Av{α:Type}{n:Nat}{f:α->List AV}(h:∀x,(f x).length=n)(l:List α):cZ n (l.map f):=iM.2 fun cs u=>by
 obtain⟨x,_,rfl⟩:=List.mem_map.1 u;exact h x
theorem Wu{b:Bool}{u:Value}(h:rep S w (.v (.bool b)) u):u=.bool b:=by simpa only[rep]using h
theorem sI{c:Bool}{x y:AV}{u v:Value}(F:c=true->rep S w x u)(E:c=false->rep S w y v):rep S w (uN c x y) (if c then u else v):=by
 unfold uN;split
 . cases c
   . have:=E rfl;simp only[rep]at this |-;subst this;simp
   . have:=F rfl;simp only[rep]at this |-;subst this;simp
 . cases c
   . have:=E rfl;simp only[rep]at this |-;subst this;simp
   . have:=F rfl;simp only[rep]at this |-;subst this;simp
 . cases c
   . have:=E rfl;simp only[rep]at this |-;subst this;simp
   . have:=F rfl;simp only[rep]at this |-;subst this;simp
 . cases c
   . simpa using E rfl
   . simpa using F rfl
theorem Lh{c:Bool}{x y:AV}(h:Ai G c x y K):
   ∃z,K z/\(gt G->∀u v,rep S w x u->rep S w y v->rep S w z (if c then u else v)):=by
 unfold Ai at h;split at h
 . refine⟨_,h.2.2,fun J u v F E=>sI (fun I=>?_) (fun I=>?_)⟩
   . simp only[rep]at F;exact F.1 (h.1 J I)
   . simp only[rep]at E;exact E.1 (h.2.1 J I)
 . refine⟨_,h.2,fun J u v F E=>sI (fun I=>?_) (fun _=>E)⟩
   simp only[rep]at F;exact F.1 (h.1 J I)
 . refine⟨_,h.2,fun J u v F E=>sI (fun _=>F) (fun I=>?_)⟩
   simp only[rep]at E;exact E.1 (h.1 J I)
 . exact⟨_,h,fun _ u v F E=>sI (fun _=>F) (fun _=>E)⟩
theorem GM{v:Value}(h:v.oneCell'=true):v.cells=#[v]:=by
 cases v <;> first|rfl|simp[Value.oneCell']at h
theorem vG{x:AV}{K:List AV->Prop}(h:lZ x K):∃cs,K cs/\∀u,rep S w x u->∃l:List Value,u.cells=l.toArray/\bG S w cs l/\(∀v∈l,v.oneCell'=true):=by
 have F:∀(x:AV) (u:Value),rep S w x u->u.oneCell'=true->∃l:List Value,u.cells=l.toArray/\bG S w [x] l/\(∀v∈l,v.oneCell'=true):=fun x u E h1=>
   ⟨[u],GM h1,by simp only[bG];exact⟨u,[],rfl,E,rfl⟩,by simpa using h1⟩
 unfold lZ at h;split at h
 . refine⟨_,h,fun u E=>?_⟩
   simp only[rep]at E;obtain⟨l,rfl,h1,I⟩:=E;exact⟨l,rfl,h1,I⟩
 . refine⟨_,h.2,fun u E=>F _ u E ?_⟩
   simp only[rep]at E;subst E;exact h.1
 . refine⟨_,h,fun u E=>F _ u E ?_⟩
   simp only[rep]at E;obtain⟨_,_,_,rfl,_⟩:=E;rfl
 . refine⟨_,h,fun u E=>F _ u E ?_⟩
   simp only[rep]at E;obtain⟨_,_,rfl,_⟩:=E;rfl
 . refine⟨_,h,fun u E=>F _ u E ?_⟩
   simp only[rep]at E;obtain⟨_,_,_,_,_,rfl⟩:=E;rfl
 . refine⟨_,h,fun u E=>F _ u E ?_⟩
   simp only[rep]at E;obtain⟨_,_,_,_,_,rfl⟩:=E;rfl
 . exact h.elim
theorem CO(v:Value):rep S w (pJ v) v:=by
 unfold pJ;split
 . unfold rep
   exact⟨none,0,0,rfl,rfl,Nat.le_refl _,Nat.zero_le _,.inl rfl⟩
 . exact kV
theorem lN:∀(l:List Value),bG S w (l.map pJ) l
 | []=>by simp[bG]
 | v::r=>by simp only[List.map_cons,bG];exact⟨v,r,rfl,CO v,lN r⟩
theorem CT:∀(l:List Value) (i:Nat) (A:Array Value) (o:Nat),o+i+l.length<=A.size ->
   ((l.zipIdx i).foldl (fun cs (p:Value×Nat)=>cs.setIfInBounds (o+p.2) p.1) A).toList=A.toList.take (o+i)++l++A.toList.drop (o+i+l.length)
 | [],i,A,o,h=>by simp
 | v::r,i,A,o,h=>by
   simp only[List.zipIdx_cons,List.foldl_cons,List.length_cons]at h |-;rw[CT r (i+1) _ o (by simp;omega)];have E:(A.setIfInBounds (o+i) v).toList=A.toList.set (o+i) v:=by simp
   rw[E,show o+(i+1)=o+i+1 by omega,List.take_set,List.drop_set_of_lt (by omega)];have u:o+i<A.toList.length:=by simp;omega
   have F:(List.take (o+i+1) A.toList).set (o+i) v=List.take (o+i) A.toList++[v]:=by
     rw[List.take_succ_eq_append_getElem u,List.set_append_right _ _ (by simp;omega)];have:(List.take (o+i) A.toList).length=o+i:=by rw[List.length_take];omega
     rw[this,Nat.sub_self];rfl
   rw[F];simp only[List.append_assoc,List.singleton_append,List.cons_append,List.nil_append];rw[show o+i+1+r.length=o+i+(r.length+1)by omega]
theorem yJ{places:List (Nat×Nat)}{place:Nat->Option (Nat×Nat)}(T:∀i on,places[i]?=some on->place i=some on):∀(E:List (Nat×List AV)) (vs:List (Nat×Value)) (cs:List AV) (A:Array Value) (cs':List AV),
   pZ places cs E=some cs'->bG S w cs A.toList->(∀v∈A.toList,v.oneCell'=true) ->
   E.length=vs.length->(∀(j i:Nat) (c:List AV),E[j]?=some (i,c)->∃(v:Value) (l:List Value),vs[j]?=some (i,v)/\v.cells=List.toArray l/\bG S w c l/\∀u∈l,u.oneCell'=true) ->
   ∃O,Instr.fill place A vs=some O/\bG S w cs' O.toList/\(∀v∈O.toList,v.oneCell'=true)
 | [],vs,cs,A,cs',F,hr,h1,hl,_=>by
   simp only[pZ]at F;injection F with F;subst F;have:vs=[]:=List.eq_nil_of_length_eq_zero (by simpa using hl.symm);subst this;exact⟨A,rfl,hr,h1⟩
 | (i,c)::rest,vs,cs,A,cs',F,hr,h1,hl,hv=>by
   obtain⟨v,l,e1,e2,e3,e4⟩:=hv 0 i c (by simp);cases vs with
   | nil=>simp at e1
   | cons q vs=>
     simp at e1;subst e1;simp only[pZ]at F;cases hp:places[i]? with
     | none=>simp[hp]at F
     | some on=>
       obtain⟨off,n⟩:=on;simp only[hp]at F;split at F
       . rename_i hc
         have M:l.length=n:=by rw[<-hc.1];exact gQ _ _ e3
         have hA:A.toList.length=cs.length:=gQ _ _ hr;have aa:A.size=cs.length:=by simpa using hA
         have hz:=CT l 0 A off (by rw[M,aa];have:=hc.2;omega);simp only[Nat.add_zero]at hz;have I:bG S w (cs.take off++c++cs.drop (off+n)) (A.toList.take off++l++A.toList.drop (off+l.length)):=by
           rw[M];exact dI _ _ _ _ (dI _ _ _ _ (qN _ _ _ hr) e3) (uQ _ _ _ hr)
         have Z:∀u∈A.toList.take off++l++A.toList.drop (off+l.length),u.oneCell'=true:=by
           intro u J;simp only[List.mem_append]at J;rcases J with(J|J)|J
           . exact h1 u (List.mem_of_mem_take J)
           . exact e4 u J
           . exact h1 u (List.mem_of_mem_drop J)
         rw[<-hz]at I Z;obtain⟨O,f1,f2,f3⟩:=yJ T rest vs _ _ cs' F I Z (by simpa using hl) (fun j i c hj=>by simpa using hv (j+1) i c (by simpa using hj));refine⟨O,?_,f2,f3⟩;simp only[Instr.fill,T i _ hp,e2,List.size_toArray,M];rw[if_neg (by have:=hc.2;simp[aa];omega)];rw[<-f1]
         congr 1
         rw[<-Array.foldl_toList];simp
       . simp at F
theorem mP{t:TypeId}{z:List AV}(h:dO P t=some z):∃i v,P.info? t=some i/\i.zero=some v/\z=v.cells.toList.map pJ/\v.cells.size=i.size/\i.size≠0/\(∀u∈v.cells.toList,u.oneCell'=true):=by
 unfold dO at h;cases F:P.info? t with
 | none=>simp[F]at h
 | some i=>
   cases E:i.zero with
   | none=>simp[F,E]at h
   | some v=>
     simp only[F,E]at h;split at h
     . rename_i I
       injection h with h;exact⟨i,v,rfl,E,h.symm,I.1,I.2.1,fun u J=>List.all_eq_true.1 I.2.2 u J⟩
     . simp at h
theorem aU{x:AV}{k:AV->Prop}(h:bT G x k):∃y,k y/\(gt G->∀u,rep S w x u->rep S w y u):=by
 unfold bT at h;split at h
 . refine⟨_,h.2,fun F u E=>?_⟩
   simp only[rep]at E;refine E.1 ?_;have:=h.1;cases G with
   | none=>exact this
   | some b=>exact this F
 . exact⟨_,h,fun _ u E=>E⟩
theorem Tp{op:UnOp}{x:AV}(h:aun op x K):∃z,K z/\∀u,rep S w x u->wD P S H w z (Op.unary op u):=by
 unfold aun at h;split at h
 . refine⟨_,h,fun u E=>?_⟩
   simp only[rep]at E;subst E;exact iG kV fun w'=>by simp[Op.unary]
 . refine⟨_,h,fun u E=>?_⟩
   simp only[rep]at E;subst E;exact iG kV fun w'=>by simp[Op.unary,Op.intArith]
 . exact h.elim
theorem HA{t:TypeId}{k:IntKind}(h:Fv P t=some k):P.underlying t=some (.int k):=by
 unfold Fv at h;split at h
 . rename_i u;injection h with h;subst h;exact u
 . simp at h
theorem Md{t:TypeId}(h:CJ P t=true):∃e,P.underlying t=some (.slice e)/\P.underlying e=some (.int .u8):=by
 unfold CJ at h;split at h
 . rename_i e u
   split at h
   . rename_i E;exact⟨e,u,E⟩
   . simp at h
 . simp at h
theorem Ff:∀(es:List (List AV)) (ns:List Int) (o:Nat) {b sz:Nat},pV es=some ns->gX S w b sz o es->0<sz->ns.length=es.length/\∀j n,ns[j]?=some n->w.cell? ⟨b,o+j,none⟩=some (.int .u8 n)
 | [],ns,o,b,sz,h,_,_=>by
   simp only[pV]at h;injection h with h;subst h;simp
 | es::r,ns,o,b,sz,h,he,hs=>by
   unfold pV at h;split at h
   . rename_i e;simp at e
   . rename_i n r' e
     injection e with e1 e2;subst e1 e2;cases F:pV r with
     | none=>simp[F]at h
     | some ns'=>
       simp[F]at h;subst h;simp only[gX,cR]at he;obtain⟨h1,⟨⟨u,M,_,J⟩,_⟩,Z⟩:=he;simp only[rep]at J;subst J;have E:sz=1:=by simpa using h1.symm
       subst E;obtain⟨O,T⟩:=Ff r ns' (o+1) F Z hs;refine⟨by simp[O],fun j m I=>?_⟩;cases j with
       | zero=>simp at I;subst I;simpa using M
       | succ j=>
         rw[show o+(j+1)=o+1+j by omega];exact T j m (by simpa using I)
   . simp at h
theorem MB{src dst:TypeId}{x:AV}(h:wW P src dst x K):∃z,K z/\∀u,rep S w x u->wD P S H w z (convert src dst u):=by
 unfold wW at h;split at h
 . split at h
   . rename_i k k' hk aa
     refine⟨_,h,fun u J=>?_⟩;simp only[rep]at J;subst J;refine iG kV fun w'=>?_
     simp[convert,run_underlying (HA hk),run_underlying (HA aa),Conv.intToInt]
   . exact h.elim
 . split at h
   . rename_i O
     refine⟨_,h,fun u J=>?_⟩;simp only[rep]at J;subst J;refine iG kV fun w'=>?_
     simp[convert,run_underlying (fN O.1),run_underlying (fN O.2)]
   . exact h.elim
 . rename_i es
   split at h
   . rename_i O
     split at h
     . rename_i ns M
       refine⟨_,h,fun u J=>?_⟩;obtain⟨e,he,Z⟩:=Md O.1;have hd:=fN O.2;simp only[rep]at J;obtain⟨ad,n,c,rfl,h1,_,_,E⟩:=J;refine⟨_,kV,fun w' ha=>?_⟩;have F:es=[]->ns=[]:=fun e=>by subst e;simp[pV]at M;exact M
       cases ad with
       | none=>
         have:es=[]:=by rcases E with E|⟨b,o,sz,E,_⟩;exact E;simp at E
         rw[run_convert_bytes_nil w' src e he Z n c dst hd,F this];rfl
       | some a=>
         have I:(loadCells a n).run P w'=.ok (ns.map (Value.int .u8)).toArray w':=by
           rcases E with E|⟨b,o,sz,E,hb,ab,T⟩
           . have hn:n=0:=by rw[<-h1,E];rfl
             rw[hn,F E];simp[loadCells,loadCellsFrom]
           . injection E with E
             subst E;obtain⟨i1,i2⟩:=Ff es ns o M T ab;have hn:n=(ns.map (Value.int .u8)).length:=by rw[List.length_map,i1,h1]
             rw[hn];refine run_loadCells_list w' _ _ fun j v hj=>?_
             rw[Addr.add_lit];simp at hj;obtain⟨m,hm,rfl⟩:=hj;exact ha.cell hb (i2 j m hm)
         rw[run_convert_bytes_string w' src dst e _ n c he Z hd,run_bytesToString w' a n c ns I,foldl_push_bytes]
         congr 3
         simp[ByteArray.empty,ByteArray.emptyWithCapacity];rfl
     . exact h.elim
   . exact h.elim
 . exact h.elim
theorem FT{t:TypeId}{e sz u:Nat}(J:bW P t=some (e,sz,u)):P.underlying t=some (.slice (P.elem t))/\∀w:World,(sizeOf (P.elem t)).run P w=.ok sz w:=by
 obtain⟨i,z,F,I,E,_⟩:=iN J;have:P.elem t=e:=by unfold Program.elem;rw[F]
 rw[this];exact⟨F,fun w=>by simp[sizeOf,typeInfo,I,E]⟩
theorem Df{t:TypeId}{x a b:AV}(h:DX P G t x a b K):
   ∃z,K z/\(gt G->∀(u I F:Value),rep S w x u->rep S w a I->rep S w b F->wD P S H w z (Instr.sliceAt t u none (some I) (some F))):=by
 unfold DX at h;split at h
 . rename_i es ka a kb b
   split at h
   . rename_i e he
     refine⟨_,h.2,fun hg u I F hu h1 Z=>?_⟩;obtain⟨e1,e2⟩:=h.1 hg;simp only[rep]at hu h1 Z;subst h1 Z e1 e2;obtain⟨O,n,c,rfl,rfl,hc,hm,M⟩:=hu;obtain⟨E,T⟩:=FT (P:=P) (t:=t) (by rw[he]);refine⟨.slice O es.length es.length,?_,fun w' _=>?_⟩
     . simp only[rep]
       exact⟨O,_,rfl,rfl,by omega,M⟩
     . rw[run_sliceAt_slice w' t _ _ _ _ E]
       have J:(es.length:Int)<=(c:Int):=by exact_mod_cast hc
       rcases M with rfl|⟨bb,o,sz,rfl,_⟩
       . simp[Instr.slice,run_underlying E,Instr.sliceBounds,Instr.sliceBound,asIntOf,T]
       . simp[Instr.slice,run_underlying E,Instr.sliceBounds,Instr.sliceBound,asIntOf,T,J,Addr.add]
         intro aa;omega
   . exact h.elim
 . exact h.elim
theorem FZ{es:List (List AV)}{ad:Option Addr}{n c sz a b:Nat}(hu:rep S w (.sl es) (.slice ad n c))(I:cZ sz es)(ac:a<=b)(hb:b<=es.length):
   rep S w (.sl ((es.take b).drop a)) (sliced ad a b c sz):=by
 simp only[rep]at hu |-;obtain⟨ab,n',c',e,h1,h2,h3,O⟩:=hu;injection e with e1 T e3;subst e1 T e3;refine⟨_,_,_,rfl,by simp;omega,by omega,by omega,?_⟩;by_cases u:(es.take b).drop a=[]
 . exact .inl u
 . refine .inr ?_
   rcases O with O|⟨bl,o,F,rfl,M,hs,E⟩
   . subst O;simp at u
   . have Z : 0 < es.length := by
       rcases Nat.eq_zero_or_pos es.length with h0|h0
       . have:=List.eq_nil_of_length_eq_zero h0;subst this;simp at u
       . exact h0
     have J:F=sz:=by
       have e1:=(qT es o 0 E Z).1;have T:=iM.1 I (es.getD 0 []) (by simp only[List.getD,List.getElem?_eq_getElem Z,Option.getD_some];exact List.getElem_mem Z);rw[<-e1,T]
     subst J;have aa:a<b:=by
       rcases Nat.lt_or_ge a b with h|h
       . exact h
       . exact absurd (List.drop_eq_nil_of_le (by simp;omega)) u
     refine⟨bl,o+a*F,F,?_,M,hs,?_⟩
     . split
       . omega
       . simp[Addr.add_lit]
     . exact AO _ o a (wH es o b E)
theorem Kc{t:TypeId}{x:AV}{lo hi:Option AV}(h:lY P G t x lo hi K):
   ∃z,K z/\(gt G->∀(u:Value) (vl vh:Option Value),rep S w x u->(∀y,lo=some y->∃v,vl=some v/\rep S w y v)->(lo=none->vl=none)->(∀y,hi=some y->∃v,vh=some v/\rep S w y v)->(hi=none->vh=none) ->
     wD P S H w z (Instr.sliceAt t u vl vh none)):=by
 unfold lY at h;split at h
 . rename_i es ka a kb b
   split at h
   . rename_i e sz aa he
     refine⟨_,h.2,fun T u vl vh F O _ J _=>?_⟩;obtain⟨⟨h0,h1,h2⟩,h3⟩:=h.1 T;obtain⟨v,rfl,I⟩:=O _ rfl;obtain⟨v',rfl,M⟩:=J _ rfl;simp only[rep]at I M;subst I M;have Z:=F;simp only[rep]at Z;obtain⟨ad,n,c,rfl,e1,e2,_⟩:=Z;obtain⟨E,hz⟩:=FT he;have:=FZ (a:=a.toNat) (b:=b.toNat) F h3 (by omega) (by omega);refine⟨_,this,fun w' _=>?_⟩;rw[run_sliceAt_slice w' t _ _ _ _ E,run_slice_lh w' t ad n c E ka kb a b h0 h1 (by omega),hz];rfl
   . exact h.elim
 . rename_i es ka a
   split at h
   . rename_i e sz aa he
     refine⟨_,h.2,fun T u vl vh F O _ _ J=>?_⟩;obtain⟨⟨h0,h1⟩,h3⟩:=h.1 T;obtain⟨v,rfl,I⟩:=O _ rfl;have:=J rfl;subst this;simp only[rep]at I;subst I;have Z:=F;simp only[rep]at Z;obtain⟨ad,n,c,rfl,e1,e2,_⟩:=Z;obtain⟨E,hz⟩:=FT he;have:=FZ (a:=a.toNat) (b:=es.length) F h3 (by omega) (by omega);rw[List.take_length,e1]at this;refine⟨_,this,fun w' _=>?_⟩;rw[run_sliceAt_slice w' t _ _ _ _ E,run_slice_l w' t ad n c E ka a h0 (by omega),hz];rfl
   . exact h.elim
 . rename_i es kb b
   split at h
   . rename_i e he
     refine⟨_,h.2,fun T u vl vh F _ O J _=>?_⟩;obtain⟨h0,h1⟩:=h.1 T;obtain⟨v,rfl,I⟩:=J _ rfl;have:=O rfl;subst this;simp only[rep]at I;subst I;obtain⟨E,hz⟩:=FT he;simp only[rep]at F;obtain⟨ad,n,c,rfl,e1,e2,e3,e4⟩:=F;refine⟨sliced ad 0 b.toNat c e.2.1,?_,fun w' _=>?_⟩
     . simp only[rep]
       refine⟨ad,b.toNat,c,?_,by simp;omega,by omega,e3,?_⟩
       . simp only[sliced,Nat.sub_zero]
         congr 1
         split
         . rfl
         . cases ad <;> simp[Addr.add_zero']
       . rcases e4 with e4|⟨bl,o,ac,rfl,af,ae,ab⟩
         . left;rw[e4];simp
         . exact .inr ⟨bl,o,ac,rfl,af,ae,wH es o _ ab⟩
     . rw[run_sliceAt_slice w' t _ _ _ _ E,run_slice_h w' t ad n c E kb b h0 (by omega),hz]
       rfl
   . exact h.elim
 . rename_i s ka a kb b
   split at h
   . rename_i E
     refine⟨_,h.2,fun T u vl vh F O _ J _=>?_⟩;obtain⟨h0,h1,h2⟩:=h.1 T;obtain⟨v,rfl,I⟩:=O _ rfl;obtain⟨v',rfl,M⟩:=J _ rfl;simp only[rep]at F I M;subst F I M;refine iG kV fun w'=>?_
     rw[run_sliceAt_string w' t _ _ _ _ (fN E),run_slice_string w' t s ka kb a b (fN E) h0 h1 h2]
   . exact h.elim
 . rename_i s ka a
   split at h
   . rename_i E
     refine⟨_,h.2,fun T u vl vh F O _ _ J=>?_⟩;obtain⟨h0,h1⟩:=h.1 T;obtain⟨v,rfl,I⟩:=O _ rfl;have:=J rfl;subst this;simp only[rep]at F I;subst F I;refine iG kV fun w'=>?_
     rw[run_sliceAt_string w' t _ _ _ _ (fN E),run_slice_string_l w' t s (fN E) ka a h0 h1]
   . exact h.elim
 . rename_i s kb b
   split at h
   . rename_i E
     refine⟨_,h.2,fun T u vl vh F _ O J _=>?_⟩;obtain⟨h0,h1⟩:=h.1 T;obtain⟨v,rfl,I⟩:=J _ rfl;have:=O rfl;subst this;simp only[rep]at F I;subst F I;refine iG kV fun w'=>?_
     rw[run_sliceAt_string w' t _ _ _ _ (fN E),run_slice_string_h w' t s (fN E) kb b h0 h1]
   . exact h.elim
 . exact h.elim
theorem PS{k:Nat}{r:Row}(hH:yV S w H)(hk:H k=some r){a b c:Nat}{F:Option Addr}{n:Nat}(O:S.loc k=.slice F n c)(Z:a<=b)(hb:b<=r.es.length):n=r.es.length/\n<=c/\rep S w (.oz k a b) (sliced F a b c r.sz):=by
 have T:=hH k r hk;obtain⟨xs,ho,_,_⟩:=T.sl O;have u:(F=none/\n=0/\c=0/\r.es.length=0)\/∃g,F=some ⟨g,0,none⟩/\n=r.es.length/\n<=c:=by
   rcases ho.2 with⟨I,M⟩|⟨g,cap,cur,I,_,_,ab,_⟩
   . rw[O]at I
     injection I with h1 E J;exact .inl ⟨h1,E,J,M⟩
   . rw[O]at I
     injection I with h1 E J;subst J;exact .inr ⟨g,h1,E,by omega⟩
 have M:n=r.es.length/\n<=c:=by
   rcases u with⟨_,h1,E,J⟩|⟨g,_,h1,E⟩ <;> omega
 refine⟨M.1,M.2,?_⟩;simp only[rep,sliced];refine⟨T.lt,F,n,c,_,_,O,rfl,Z,by omega,fun aa=>?_,fun ha=>?_⟩
 . rcases u with⟨_,h1,E,J⟩|⟨g,h0,h1,E⟩
   . omega
   . subst h0
     refine⟨g,rfl,?_⟩;rw[if_neg (by omega)];simp[Addr.add_lit,T.sz]
 . subst ha
   rcases u with⟨h0,_,_,_⟩|⟨g,h0,_,_⟩
   . subst h0;simp
   . subst h0;simp[Addr.add_lit]
theorem qP{H':aH}{t:TypeId}{x:AV}{lo hi:Option AV}(hH:yV S w H)(h:asl P G H t x lo hi K):
   ∃z,K z/\(gt G->∀(u:Value) (M O:Option Value),rep S w x u->(∀y,lo=some y->∃v,M=some v/\rep S w y v)->(lo=none->M=none)->(∀y,hi=some y->∃v,O=some v/\rep S w y v)->(hi=none->O=none) ->
     wD P S H' w z (Instr.sliceAt t u M O none)):=by
 unfold asl at h;split at h
 . rename_i k
   split at h
   . rename_i r e sz aa hk he
     obtain⟨J,hz⟩:=FT he;split at h
     . rename_i ka a kb b
       refine⟨_,h.2,fun hg u M O F hl _ T _=>?_⟩;obtain⟨⟨h0,h1,h2⟩,h3⟩:=h.1 hg;obtain⟨v,rfl,I⟩:=hl _ rfl;obtain⟨v',rfl,Z⟩:=T _ rfl;simp only[rep]at I Z F;subst I Z;obtain⟨_,rfl,ad,n,c,E⟩:=F;obtain⟨q1,q2,q3⟩:=PS (a:=a.toNat) (b:=b.toNat) hH hk E (by omega) (by omega);rw[E];refine⟨_,q3,fun w' _=>?_⟩;rw[run_sliceAt_slice w' t _ _ _ _ J,run_slice_lh w' t ad n c J ka kb a b h0 h1 (by omega),hz,h3];rfl
     . rename_i ka a
       refine⟨_,h.2,fun hg u M O F hl _ _ T=>?_⟩;obtain⟨⟨h0,h1⟩,h3⟩:=h.1 hg;obtain⟨v,rfl,I⟩:=hl _ rfl;have:=T rfl;subst this;simp only[rep]at I F;subst I;obtain⟨_,rfl,ad,n,c,E⟩:=F;obtain⟨q1,q2,q3⟩:=PS (a:=a.toNat) (b:=r.es.length) hH hk E (by omega) (by omega);rw[E];refine⟨_,q3,fun w' _=>?_⟩;rw[run_sliceAt_slice w' t _ _ _ _ J,run_slice_l w' t ad n c J ka a h0 (by omega),hz,h3,q1];rfl
     . rename_i kb b
       refine⟨_,h.2,fun hg u M O F _ hl T _=>?_⟩;obtain⟨⟨h0,h1⟩,h3⟩:=h.1 hg;obtain⟨v,rfl,I⟩:=T _ rfl;have:=hl rfl;subst this;simp only[rep]at I F;subst I;obtain⟨_,rfl,ad,n,c,E⟩:=F;obtain⟨q1,q2,q3⟩:=PS (a:=0) (b:=b.toNat) hH hk E (by omega) (by omega);rw[E];refine⟨_,q3,fun w' _=>?_⟩;rw[run_sliceAt_slice w' t _ _ _ _ J,run_slice_h w' t ad n c J kb b h0 (by omega),hz,h3];rfl
     . exact h.elim
   . exact h.elim
 . exact Kc h
theorem Jv{t:TypeId}{x i:AV}(h:vU P G t x i K):
   ∃z,K z/\(gt G->∀u v,rep S w x u->rep S w i v->wD P S H w z (Instr.index t u v)):=by
 unfold vU at h;split at h
 . rename_i s k n
   split at h
   . rename_i hs
     refine⟨_,h.2,fun J u v I F=>?_⟩;obtain⟨h0,h1⟩:=h.1 J;simp only[rep]at I F;subst I F;refine iG kV fun w'=>?_
     rw[run_index_string w' t s k n (fN hs),dif_pos ⟨h0,h1⟩];have M:n.toNat<s.data.size:=by have:s.size=s.data.size:=rfl;omega
     congr 4
     rw[Array.getD,dif_pos M];rfl
   . exact h.elim
 . rename_i cs k n
   split at h
   . rename_i m s l ha
     obtain⟨e,Z,I,hi,rfl,_,hl⟩:=Ij ha;obtain⟨z,hz,hd⟩:=DS (S:=S) (H:=H) (w:=w) hl h.2;refine⟨z,hz,fun J u v T F=>?_⟩;obtain⟨h0,h1⟩:=h.1 J;obtain⟨cs',rfl,O⟩:=hd J u T;simp only[rep]at F;subst F;obtain⟨r,hr,E⟩:=O;refine⟨r,hr,fun w' hw=>?_⟩;have:=E w' hw;simp[Instr.index,asIntOf,run_underlying I,h0,h1,sizeOf,typeInfo,hi];simpa using this
   . exact h.elim
 . exact h.elim
def opB(n:Nat):Operand->Bool
 | .tmp t=>decide (t<n)
 | _=>true
def FR(S:Sg)(w:World)(ρ:Env)(a:Act):Prop:=∀t,t<a.tmps.size->rep S w (ρ t) (a.tmps.getD t undef)
theorem cO{ρ:Env}{a:Act}(E:FR S w ρ a){x:Operand}(u:opB a.tmps.size x=true):rep S w (aev ρ x) (a.eval x):=by
 cases x with
 | tmp t=>simp only[opB,decide_eq_true_eq]at u;exact E t u
 | const v=>exact CO v
 | global g=>trivial
 | func f=>exact kV
theorem Pu{ρ:Env}{a:Act}(u:FR S w ρ a){x:Operand}(E:opB a.tmps.size x=true):rep S w (J5 ρ x) (a.eval x):=by
 cases x with
 | const v=>exact kV
 | tmp t=>exact cO u E
 | global g=>exact cO u E
 | func f=>exact cO u E
theorem DB{ρ:Env}{a:Act}(u:FR S w ρ a):∀(l:List Operand),(∀x∈l,opB a.tmps.size x=true)->bG S w (l.map (J5 ρ)) (l.map a.eval)
 | [],_=>rfl
 | x::l,h=>by
   simp only[List.map_cons,bG];exact⟨_,_,rfl,Pu u (h x (by simp)),DB u l fun y E=>h y (by simp[E])⟩
theorem nB{ρ:Env}{a:Act}(O:FR S w ρ a):∀(l:List (Nat×Operand)) {K:List (Nat×List AV)->Prop},(∀p∈l,opB a.tmps.size p.2=true)->oI G ρ l K ->
   ∃E,K E/\(gt G->E.length=(l.map fun p=>(p.1,a.eval p.2)).length /\
     ∀(j i:Nat) (c:List AV),E[j]?=some (i,c)->∃(v:Value) (l':List Value),(l.map fun p=>(p.1,a.eval p.2))[j]?=some (i,v)/\v.cells=List.toArray l'/\bG S w c l'/\∀u∈l',u.oneCell'=true)
 | [],K,_,h=>⟨[],h,fun _=>⟨rfl,by simp⟩⟩
 | (i,x)::rest,K,hb,h=>by
   simp only[oI]at h;obtain⟨y,h,Z⟩:=aU (S:=S) (w:=w) h;obtain⟨cs,h,I⟩:=vG (S:=S) (w:=w) h;obtain⟨E,hK,F⟩:=nB O rest (fun p T=>hb p (by simp[T])) h;refine⟨_,hK,fun M=>?_⟩;obtain⟨e1,e2⟩:=F M;refine⟨by simpa using e1,fun j k c J=>?_⟩;cases j with
   | zero=>
     simp at J;obtain⟨rfl,rfl⟩:=J;obtain⟨l',f1,f2,f3⟩:=I _ (Z M _ (cO O (hb (i,x) (by simp))));exact⟨_,l',by simp,f1,f2,f3⟩
   | succ j=>simpa using e2 j k c (by simpa using J)
theorem tE{t:TypeId}{i:TypeInfo}{M:Value}{z:List AV}{pl:List (Nat×Nat)}(hi:P.info? t=some i)(O:i.zero=some M)(h1:∀u∈M.cells.toList,u.oneCell'=true)(hr:bG S w z M.cells.toList)(F:eC P t=some pl){E:List (Nat×List AV)}{vs:List (Nat×Value)}{cs:List AV}
   (hf:pZ pl z E=some cs) (hl:E.length=vs.length)
   (hv:∀(j i:Nat) (c:List AV),E[j]?=some (i,c)->∃(v:Value) (l:List Value),vs[j]?=some (i,v)/\v.cells=List.toArray l/\bG S w c l/\∀u∈l,u.oneCell'=true):
   ∃I,P.built t vs=some I/\bG S w cs I.toList/\∀v∈I.toList,v.oneCell'=true:=by
 unfold eC at F;split at F
 . rename_i fs T
   obtain⟨I,f1,f2,f3⟩:=yJ (place:=fun i=>pl.toArray[i]?) (fun i on h=>by simpa using h) E vs _ M.cells cs hf hr h1 hl hv;refine⟨I,?_,f2,f3⟩;unfold Program.built;simp only[hi,T,O,F];exact f1
 . rename_i n e T
   cases J:P.info? e with
   | none=>simp[J]at F
   | some ie=>
     simp[J]at F;obtain⟨I,f1,f2,f3⟩:=yJ (place:=fun i=>some (i*ie.size,ie.size)) (fun i on h=>by
       rw[<-F]at h;simp only[List.getElem?_map,Option.map_eq_some_iff]at h;obtain⟨j,h,rfl⟩:=h;have Z:i<n:=by
         rcases Nat.lt_or_ge i n with h'|h'
         . exact h'
         . simp[List.getElem?_eq_none,h']at h
       simp[Z]at h;rw[h]) E vs _ M.cells cs hf hr h1 hl hv
     refine⟨I,?_,f2,f3⟩;unfold Program.built;simp only[hi,T,O,J];exact f1
 . simp at F
theorem JB{t:TypeId}{z:List AV}{J:List (Nat×Nat)}(hz:dO P t=some z)(O:eC P t=some J){E:List (Nat×List AV)}{vs:List (Nat×Value)}{cs:List AV}
   (hf:pZ J z E=some cs) (Z:E.length=vs.length)
   (hv:∀(j i:Nat) (c:List AV),E[j]?=some (i,c)->∃(v:Value) (l:List Value),vs[j]?=some (i,v)/\v.cells=List.toArray l/\bG S w c l/\∀u∈l,u.oneCell'=true):
   ∃F,P.built t vs=some F/\bG S w cs F.toList/\∀v∈F.toList,v.oneCell'=true:=by
 obtain⟨i,T,hi,I,rfl,M,_,h1⟩:=mP hz;exact tE hi I h1 (lN T.cells.toList) O hf Z hv
end
end Go.Aw
end
section
namespace Go.Aw
open Go.RowKit
section
variable{P:Program}{S:Sg}{H:aH}{w:World}{G:Option Bool}{K:AV->Prop}
theorem Vd{a b:ByteArray}(h:a.toList=b.toList):a=b:=by
 rw[ByteArray.toList_eq,ByteArray.toList_eq]at h;exact ByteArray.ext (Array.toList_inj.1 h)
theorem Ts{t:TypeId}{u:TypeId×TypeId}(h:QF P t=some u):P.underlying t=some (.map u.1 u.2):=by
 unfold QF at h;split at h
 . rename_i k e E
   injection h with h;subst h;exact E
 . simp at h
theorem Ip{t:TypeId}{z:AV}(h:IK P t=some z):∃v,(∀w':World,(zeroValue t).run P w'=.ok v w')/\∀S w,rep S w z v:=by
 unfold IK at h;split at h
 . rename_i i I
   split at h
   . rename_i cs F
     split at h
     . rename_i E
       injection h with h;subst h;refine⟨.agg cs,fun w'=>by simp[zeroValue,typeInfo,I,F],fun S w=>?_⟩;simp only[rep];refine⟨cs.toList,by simp,lN _,fun u J=>List.all_eq_true.1 E u J⟩
     . simp at h
   . rename_i v _ F
     split at h
     . injection h with h
       subst h;exact⟨v,fun w'=>by simp[zeroValue,typeInfo,I,F],fun S w=>CO _⟩
     . simp at h
   . simp at h
 . simp at h
theorem IA{kt:TypeId}{x y:AV}{b:Bool}(h:pM P kt x y=some b){u v:Value}(hu:rep S w x u)(hv:rep S w y v):
   ∃d,P.underlying kt=some d/\Instr.sameNow d u v=some b/\(b=true->u=v/\∀n,Instr.sameBits (n+1) v u=true):=by
 unfold pM at h;split at h
 . rename_i a c
   simp only[rep]at hu hv;subst hu hv;split at h
   . rename_i k T
     unfold tN at h;split at h
     . rename_i k1 a1 k2 F M I
       cases M;cases I;split at h
       . rename_i O
         subst O;rcases lE T with⟨_,k',E⟩|⟨h0,_⟩|⟨h0,_⟩
         . injection h with h
           subst h;refine⟨_,E,by simp[Instr.sameNow],fun J=>?_⟩;have:a1=F:=by simpa using J
           subst this;exact⟨rfl,fun n=>by simp[Instr.sameBits]⟩
         . simp at h0
         . simp at h0
       . simp at h
     . rename_i a1 F M I
       cases M;cases I;rcases lE T with⟨h0,_⟩|⟨_,E⟩|⟨h0,_⟩
       . simp at h0
       . injection h with h
         have J:(a1 == F)=b:=by rw[beq_toListBytes];exact h
         refine⟨_,E,by simp[Instr.sameNow,J],fun Z=>?_⟩;have:a1=F:=Vd (by rw[Z]at h;simpa using h);subst this;exact⟨rfl,fun n=>by simp[Instr.sameBits,beq_toListBytes]⟩
       . simp at h0
     . rename_i a1 F M I
       cases M;cases I;rcases lE T with⟨h0,_⟩|⟨h0,_⟩|⟨_,E⟩
       . simp at h0
       . simp at h0
       . injection h with h
         subst h;refine⟨_,E,by simp[Instr.sameNow],fun J=>?_⟩;have:a1=F:=by simpa using J
         subst this;exact⟨rfl,fun n=>by simp[Instr.sameBits]⟩
     . simp at h
   . simp at h
 . simp at h
theorem I9{kt:TypeId}{x:AV}{u:Value}{d:TypeDesc}(Z:P.underlying kt=some d)(T:rep S w x u):∀(es:List (List AV)) (ms:List MapEntry) (i:Nat) {oi:Option Nat},kJ S w i es ms->sQ (pM P kt x) es i=some oi ->
   (oi=none->Instr.findNow d u ms i=some none)/\∀j,oi=some j->∃m cs,i<=j/\ms[j-i]?=some m/\es[j-i]?=some cs/\Instr.findNow d u ms i=some (some (j,m.val))/\m.key=u/\(∀n,Instr.sameBits (n+1) m.key u=true)/\m.born=j/\bG S w cs [m.key,m.val]
 | [],ms,i,oi,he,F=>by
   simp only[kJ]at he;subst he;simp only[sQ]at F;injection F with F;subst F;exact⟨fun _=>rfl,fun j h=>by simp at h⟩
 | cs::r,ms,i,oi,he,F=>by
   simp only[kJ]at he;obtain⟨m,t,rfl,hb,M,ht⟩:=he;unfold sQ at F;have hk:rep S w (cs.getD 0 .any) m.key:=by
     cases cs with
     | nil=>simp[bG]at M
     | cons c cs=>
       simp only[bG]at M;obtain⟨_,_,e,h1,_⟩:=M;injection e with e1 e2;subst e1;simpa using h1
   split at F
   . rename_i I
     injection F with F;subst F;obtain⟨d',E,h1,O⟩:=IA I T hk;rw[Z]at E;injection E with E;subst E;refine⟨fun h=>by simp at h,fun j J=>?_⟩;injection J with J;subst J;exact⟨m,cs,Nat.le_refl _,by simp,by simp,by simp[Instr.findNow,h1],(O rfl).1.symm,(O rfl).2,hb,M⟩
   . rename_i I
     obtain⟨d',E,h1,O⟩:=IA I T hk;rw[Z]at E;injection E with E;subst E;obtain⟨g1,g2⟩:=I9 Z T r t (i+1) ht F;refine⟨fun h=>by simp[Instr.findNow,h1,g1 h],fun j J=>?_⟩;obtain⟨m',cs',q1,q2,q3,q4,q5⟩:=g2 j J;have e:j-i=(j-(i+1))+1:=by omega
     exact⟨m',cs',by omega,by rw[e];simpa using q2,by rw[e];simpa using q3,by simp[Instr.findNow,h1,q4],q5⟩
   . simp at F
theorem xU:∀(i:Nat) (es:List (List AV)) (ms:List MapEntry),kJ S w i es ms->ms.length=es.length
 | _,[],ms,h=>by simp only[kJ]at h;simp[h]
 | i,cs::r,ms,h=>by
   simp only[kJ]at h;obtain⟨m,t,rfl,_,_,u⟩:=h;simp[xU (i+1) r t u]
theorem L6:∀(i:Nat) (es:List (List AV)) (ms:List MapEntry) (j:Nat),kJ S w i es ms->j<es.length->∃m,ms[j]?=some m/\m.born=i+j/\bG S w (es.getD j []) [m.key,m.val]
 | _,[],_,_,_,h=>by simp at h
 | i,cs::r,ms,0,h,_=>by
   simp only[kJ]at h;obtain⟨m,t,rfl,h1,u,_⟩:=h;exact⟨m,by simp,by simpa using h1,by simpa using u⟩
 | i,cs::r,ms,j+1,h,hj=>by
   simp only[kJ]at h;obtain⟨m,t,rfl,_,_,E⟩:=h;obtain⟨F,I,J,g3⟩:=L6 (i+1) r t j E (by simpa using hj);exact⟨F,by simpa using I,by omega,by simpa using g3⟩
theorem B4:∀(i:Nat) (es:List (List AV)) (ms:List MapEntry) (j:Nat) {cs:List AV} {m:MapEntry},kJ S w i es ms->m.born=i+j->bG S w cs [m.key,m.val]->kJ S w i (es.set j cs) (ms.set j m)
 | _,[],ms,_,_,_,h,_,_=>by simp only[kJ]at h;subst h;simp[kJ]
 | i,c::r,ms,0,cs,m,h,hb,hr=>by
   simp only[kJ]at h;obtain⟨E,t,rfl,_,_,u⟩:=h;simp only[List.set_cons_zero,kJ];exact⟨m,t,rfl,by simpa using hb,hr,u⟩
 | i,c::r,ms,j+1,cs,m,h,hb,hr=>by
   simp only[kJ]at h;obtain⟨E,t,rfl,h1,F,u⟩:=h;simp only[List.set_cons_succ,kJ];exact⟨E,t.set j m,rfl,h1,F,B4 (i+1) r t j u (by omega) hr⟩
theorem Bf:∀(i:Nat) (es:List (List AV)) (ms:List MapEntry) {cs:List AV} {m:MapEntry},kJ S w i es ms->m.born=i+es.length->bG S w cs [m.key,m.val]->kJ S w i (es++[cs]) (ms++[m])
 | i,[],ms,cs,m,h,hb,hr=>by
   simp only[kJ]at h;subst h;simp only[List.nil_append,kJ];exact⟨m,[],rfl,by simpa using hb,hr,rfl⟩
 | i,c::r,ms,cs,m,h,hb,hr=>by
   simp only[kJ]at h;obtain⟨F,t,rfl,h1,u,E⟩:=h;simp only[List.cons_append,kJ];exact⟨F,t++[m],rfl,h1,u,Bf (i+1) r t E (by simp at hb;omega) hr⟩
theorem yS{E:TypeId}{x:AV}(h:mH P E x=true){u:Value}(F:rep S w x u)(e:Bool)(n:Nat)(w':World):(∃d,P.underlying E=some d)/\(Instr.checkKey e (n+1) E u).run P w'=.ok () w':=by
 unfold mH at h;split at h
 all_goals first|(simp at h;done)|skip
 all_goals
   simp only[beq_iff_eq]at h;simp only[rep]at F;subst F;rcases lE h with⟨h0,k',hk'⟩|⟨h0,hk'⟩|⟨h0,hk'⟩ <;> first
     | (simp at h0;done)
     | exact⟨⟨_,hk'⟩,by unfold Instr.checkKey;simp only[Sem.run_bind,run_underlying hk',Result.andThen];rfl⟩
theorem Ni{t:TypeId}{E:TypeId×TypeId}{x:AV}{r:Row}{k:Nat}{u:Value}{F:Option Nat}(ht:QF P t=some E)(M:mH P E.1 x=true)(hf:sQ (pM P E.1 x) r.es 0=some F)(hm:YG S w k r)(I:rep S w x u):
   ∃g ms,S.loc k=.map (some g)/\w.heap[g]?=some (.map (List.toArray ms) ms.length)/\kJ S w 0 r.es ms/\P.underlying t=some (.map E.1 E.2)/\(∀e (w':World),(Instr.checkKey e 10000 E.1 u).run P w'=.ok () w') /\
     ((F=none/\∀w':World,(Instr.findKey E.1 u ms).run P w'=.ok none w') \/
     ∃j m cs,F=some j/\ms[j]?=some m/\r.es[j]?=some cs/\(∀w':World,(Instr.findKey E.1 u ms).run P w'=.ok (some (j,m.val)) w')/\m.key=u/\(∀n,Instr.sameBits (n+1) m.key u=true)/\m.born=j/\bG S w cs [m.key,m.val]):=by
 obtain⟨g,ms,h1,T,O,_⟩:=hm;obtain⟨⟨d,J⟩,_⟩:=yS M I true 0 w;refine⟨g,ms,h1,T,O,Ts ht,fun e w'=>(yS M I e 9999 w').2,?_⟩;obtain⟨f1,f2⟩:=I9 J I r.es ms 0 O hf;cases F with
 | none=>exact .inl ⟨rfl,fun w'=>by simp[Instr.findKey,run_underlying J,f1 rfl]⟩
 | some j=>
   obtain⟨m,cs,_,q2,q3,q4,q5,q6,Z,q8⟩:=f2 j rfl;exact .inr ⟨j,m,cs,rfl,by simpa using q2,by simpa using q3,fun w'=>by simp[Instr.findKey,run_underlying J,q4],q5,q6,Z,q8⟩
theorem Fo{cs:List AV}{a b:Value}(h:bG S w cs [a,b]):∃x y,cs=[x,y]/\rep S w x a/\rep S w y b:=by
 cases cs with
 | nil=>simp[bG]at h
 | cons x cs=>
   simp only[bG]at h;obtain⟨u,t,e,h1,E⟩:=h;injection e with I F;subst I F;cases cs with
   | nil=>simp[bG]at E
   | cons y cs=>
     simp only[bG]at E;obtain⟨u,t,e,J,M⟩:=E;injection e with I F;subst I F;cases cs with
     | nil=>exact⟨x,y,rfl,h1,J⟩
     | cons _ _=>simp[bG]at M
theorem GO{t:TypeId}{x I:AV}{ok:Bool}(hH:yV S w H)(h:sY P H t x I ok K):
   ∃z,K z/\(gt G->∀u v,rep S w x u->rep S w I v->wD P S H w z (Instr.lookup t u v ok)):=by
 unfold sY D3 at h;split at h
 . rename_i j
   split at h
   . rename_i r kt hj ht
     split at h
     . rename_i oi hf
       obtain⟨hp,h⟩:=h;split at h
       . rename_i z hz
         refine⟨_,h,fun _ u v hu hv=>?_⟩;simp only[rep]at hu;obtain⟨_,rfl,g0,aa⟩:=hu;obtain⟨g,ms,h1,h2,h3,Z,O,T⟩:=Ni ht hp hf ((hH j r hj).mp aa) hv;obtain⟨zv,J,M⟩:=Ip hz;have E:∀w',Agree S H w w'->w'.heap[g]?=some (.map (List.toArray ms) ms.length):=fun w' F=>(F.own j r hj g (by rw[h1];rfl)).trans h2
         rcases T with⟨rfl,T⟩|⟨i,m,cs,rfl,q1,q2,q3,q4,q5,q6,q7⟩
         . cases ok with
           | false=>
             refine⟨zv,M S w,fun w' F=>?_⟩;simp[Instr.lookup,run_underlying Z,h1,MapKept.run_getObj_map (E w' F),O,T,J,FC]
           | true=>
             refine⟨.tuple #[zv,.bool false],?_,fun w' F=>?_⟩
             . simp only[FC,if_true,rep,bG]
               exact⟨[zv,.bool false],by simp,_,_,rfl,M S w,_,_,rfl,rfl,rfl⟩
             . simp[Instr.lookup,run_underlying Z,h1,MapKept.run_getObj_map (E w' F),O,T,J,FC]
         . obtain⟨xk,xv,rfl,r1,r2⟩:=Fo q7
           have e1:(r.es.getD i []).getD 1 .any=xv:=by simp[List.getD,q2]
           cases ok with
           | false=>
             refine⟨m.val,by simp only[FC,e1];exact r2,fun w' F=>?_⟩;simp[Instr.lookup,run_underlying Z,h1,MapKept.run_getObj_map (E w' F),O,q3]
           | true=>
             refine⟨.tuple #[m.val,.bool true],?_,fun w' F=>?_⟩
             . simp only[FC,if_true,e1,rep,bG]
               exact⟨[m.val,.bool true],by simp,_,_,rfl,r2,_,_,rfl,rfl,rfl⟩
             . simp[Instr.lookup,run_underlying Z,h1,MapKept.run_getObj_map (E w' F),O,q3]
       . exact h.elim
     . exact h.elim
   . exact h.elim
 . exact h.elim
end
end Go.Aw
end
section
namespace Go.Aw
open Go.RowKit
section
variable{P:Program}{S:Sg}{H:aH}{w:World}{G:Option Bool}{K:AV->Prop}
theorem zQ{s:Sem Value}{v:Value}{w':World}(h:s.run P w'=.ok v w'):(do pure (Next.value (<-s)):Sem Next).run P w'=.ok (.value v) w':=by
 simp[h]
def lU(P:Program)(S:Sg)(H:aH)(w:World)(a:Act)(op:Op)(z:AV):Prop:=
 ∃v,rep S w z v/\∀w',Agree S H w w'->∀o:Oper,o.op=op->(execOp a.eval o).run P w'=.ok (.value v) w'
theorem lU.of_does{a:Act}{op:Op}{z:AV}{s:Sem Value}(J:wD P S H w z s)(I:∀o:Oper,o.op=op->execOp a.eval o=(do pure (Next.value (<-s)):Sem Next)):lU P S H w a op z:=by
 obtain⟨v,E,F⟩:=J;exact⟨v,E,fun w' M o u=>by rw[I o u];exact zQ (F w' M)⟩
theorem mW{G:Option Bool}{ρ:Env}{a:Act}(F:FR S w ρ a):∀(l:List Operand) {K:List AV->Prop},(∀x∈l,opB a.tmps.size x=true)->Ag G ρ l K ->
   ∃E,K E/\(gt G->bG S w E (l.map a.eval))
 | [],K,_,h=>⟨[],h,fun _=>by simp[bG]⟩
 | x::rest,K,hb,h=>by
   simp only[Ag]at h;obtain⟨y,h,J⟩:=aU (S:=S) (w:=w) h;obtain⟨E,M,u⟩:=mW F rest (fun x O=>hb x (by simp[O])) h;refine⟨_,M,fun I=>?_⟩;simp only[List.map_cons,bG];exact⟨_,_,rfl,J I _ (cO F (hb x (by simp))),u I⟩
theorem DI{ρ:Env}{a:Act}{op:Op}(hb:∀x∈op.operands,opB a.tmps.size x=true)(hF:FR S w ρ a)(hH:yV S w H)(h:gK P G ρ H op K):
   ∃z,K z/\(gt G->lU P S H w a op z):=by
 have ev:=fun x M=>cO hF (hb x M)
 cases op <;> simp only[gK]at h <;> simp only[Op.operands]at ev hb <;> try exact h.elim
 case move x=>
   obtain⟨z,I,O⟩:=aU (S:=S) (w:=w) h;exact⟨z,I,fun E=>⟨_,O E _ (ev x (by simp)),fun w' _ o F=>by simp[execOp,F]⟩⟩
 case assign x=>
   obtain⟨z,I,O⟩:=aU (S:=S) (w:=w) h;exact⟨z,I,fun E=>⟨_,O E _ (ev x (by simp)),fun w' _ o F=>by simp[execOp,F]⟩⟩
 case pick c x y=>
   obtain⟨zc,h,hc⟩:=aU (S:=S) (w:=w) h;split at h
   . rename_i b
     obtain⟨z,I,O⟩:=Lh (S:=S) (w:=w) h;refine⟨z,I,fun E=>?_⟩;have e:=Wu (hc E _ (ev c (by simp)));refine⟨_,O E _ _ (ev x (by simp)) (ev y (by simp)),fun w' _ o F=>?_⟩;simp[execOp,F,e,asBool]
   . exact h.elim
 case build t parts=>
   obtain⟨ps,h,ag⟩:=nB hF parts.toList (fun p hp=>hb p.2 (by simpa using⟨p.1,by simpa using hp⟩)) h;unfold vP at h;split at h
   . rename_i z pl I aj
     split at h
     . rename_i cs al
       refine⟨_,h,fun E=>?_⟩;obtain⟨e1,e2⟩:=ag E;obtain⟨A',f1,f2,f3⟩:=JB (S:=S) (w:=w) I aj al e1 e2;refine⟨.agg A',by simp only[rep];exact⟨A'.toList,by simp,f2,f3⟩,fun w' _ o F=>?_⟩;have:(parts.map fun(p:Nat×Operand)=>(p.1,a.eval p.2)).toList=parts.toList.map fun p=>(p.1,a.eval p.2):=by simp
       rw[<-this]at f1;simp only[execOp,F];exact zQ (run_build w' t _ A' f1)
     . exact h.elim
   . exact h.elim
 case load t x=>
   split at h
   . rename_i l hl
     obtain⟨y,h,O⟩:=aU (S:=S) (w:=w) h;obtain⟨z,I,T⟩:=DG hl hH h;exact⟨z,I,fun E=>lU.of_does (T E _ (O E _ (ev x (by simp)))) (fun o F=>by simp[execOp,F])⟩
   . exact h.elim
 case nilCheck x=>
   obtain⟨y,h,O⟩:=aU (S:=S) (w:=w) h;split at h
   . refine⟨_,h,fun E=>?_⟩
     have e:=O E _ (ev x (by simp));refine⟨_,e,fun w' _ o F=>?_⟩;simp only[rep]at e;obtain⟨b,p,e,_⟩:=e;simp[execOp,F,e]
   . refine⟨_,h,fun E=>?_⟩
     have e:=O E _ (ev x (by simp));refine⟨_,e,fun w' _ o F=>?_⟩;simp only[rep]at e;obtain⟨_,b,p,c,_,e⟩:=e;simp[execOp,F,e]
   . exact h.elim
 case binOp op t x y t'=>
   split at h
   . rename_i ab
     have O:y=.const (.slice none 0 0):=by
       unfold qW at ab;split at ab
       . rfl
       . simp at ab
     subst O;obtain⟨x',h,M⟩:=aU (S:=S) (w:=w) h;obtain⟨ak,h⟩:=h;obtain⟨e,ai⟩:=xZ ak;have J:∀(b:Bool) (ad:Option Addr) (n c:Nat),a.eval x=.slice ad n c->(op=.eql/\b=ad.isNone\/op=.neq/\b= !ad.isNone)->lU P S H w a (.binOp op t x (.const (.slice none 0 0)) t') (.v (.bool b)):=by
       intro b ad n c M hb;refine⟨.bool b,by simp only[rep],fun w' _ o F=>?_⟩;have ec:a.eval (.const (.slice none 0 0))=.slice none 0 0:=rfl;simp only[execOp,F,M,ec];have E:(eqGuard op t x (.const (.slice none 0 0)) (.slice ad n c) (.slice none 0 0)).run P w'=.ok () w':=iX op t x _ _ _ (by simp) (by simp) w';have he:(Op.equal t (.slice ad n c) (.slice none 0 0)).run P w'=.ok ad.isNone w':=by
         have e0:Op.equal t (.slice ad n c) (.slice none 0 0)=Op.equalIn (9999+1) t (.slice ad n c) (.slice none 0 0):=rfl;rw[e0];unfold Op.equalIn;cases ad <;> simp[run_underlying ai]
       rcases hb with⟨rfl,rfl⟩|⟨rfl,rfl⟩
       . exact zQ (by simp only[Sem.run_bind,E,Result.andThen_ok];simp[binOp,he])
       . exact zQ (by simp only[Sem.run_bind,E,Result.andThen_ok];simp[binOp,he])
     by_cases E:gt G
     . have ex:=M E _ (ev x (by simp))
       unfold pT at h;split at h
       . simp only[rep]at ex
         obtain⟨ad,n,c,hv,hl,_,_,hc⟩:=ex;cases ad with
         | none=>
           rcases hc with hc|⟨b,o,sz,hc,_⟩
           . exact⟨_,h.1 hc,fun _=>J _ _ _ _ hv (.inl ⟨rfl,rfl⟩)⟩
           . simp at hc
         | some ad=>exact⟨_,h.2,fun _=>J _ _ _ _ hv (.inl ⟨rfl,rfl⟩)⟩
       . simp only[rep]at ex
         obtain⟨ad,n,c,hv,hl,_,_,hc⟩:=ex;cases ad with
         | none=>
           rcases hc with hc|⟨b,o,sz,hc,_⟩
           . exact⟨_,h.1 hc,fun _=>J _ _ _ _ hv (.inr ⟨rfl,rfl⟩)⟩
           . simp at hc
         | some ad=>exact⟨_,h.2,fun _=>J _ _ _ _ hv (.inr ⟨rfl,rfl⟩)⟩
       . simp only[rep]at ex
         obtain⟨_,_,ad,n,c,hv⟩:=ex;cases ad with
         | none=>exact⟨_,h.1,fun _=>J _ _ _ _ hv (.inl ⟨rfl,rfl⟩)⟩
         | some ad=>exact⟨_,h.2,fun _=>J _ _ _ _ hv (.inl ⟨rfl,rfl⟩)⟩
       . simp only[rep]at ex
         obtain⟨_,_,ad,n,c,hv⟩:=ex;cases ad with
         | none=>exact⟨_,h.1,fun _=>J _ _ _ _ hv (.inr ⟨rfl,rfl⟩)⟩
         | some ad=>exact⟨_,h.2,fun _=>J _ _ _ _ hv (.inr ⟨rfl,rfl⟩)⟩
       . simp only[rep]at ex
         exact⟨_,h,fun _=>J _ none 0 0 ex (.inl ⟨rfl,rfl⟩)⟩
       . simp only[rep]at ex
         exact⟨_,h,fun _=>J _ none 0 0 ex (.inr ⟨rfl,rfl⟩)⟩
       . exact h.elim
     . unfold pT at h
       split at h
       . exact⟨_,h.2,fun Z=>absurd Z E⟩
       . exact⟨_,h.2,fun Z=>absurd Z E⟩
       . exact⟨_,h.2,fun Z=>absurd Z E⟩
       . exact⟨_,h.2,fun Z=>absurd Z E⟩
       . exact⟨_,h,fun Z=>absurd Z E⟩
       . exact⟨_,h,fun Z=>absurd Z E⟩
       . exact h.elim
   obtain⟨x',h,M⟩:=aU (S:=S) (w:=w) h;obtain⟨y',h,O⟩:=aU (S:=S) (w:=w) h;obtain⟨z,I,T⟩:=PB (S:=S) (H:=H) (w:=w) h;exact⟨z,I,fun E=>lU.of_does (T E _ _ (M E _ (ev x (by simp))) (O E _ (ev y (by simp))) x y) (fun o F=>by simp[execOp,F])⟩
 case unOp op t x=>
   obtain⟨x',h,M⟩:=aU (S:=S) (w:=w) h;obtain⟨z,I,T⟩:=Tp (P:=P) (S:=S) (H:=H) (w:=w) h;exact⟨z,I,fun E=>lU.of_does (T _ (M E _ (ev x (by simp)))) (fun o F=>by simp[execOp,F])⟩
 case convert src dst x=>
   obtain⟨x',h,M⟩:=aU (S:=S) (w:=w) h;obtain⟨z,I,T⟩:=MB (S:=S) (H:=H) (w:=w) h;exact⟨z,I,fun E=>lU.of_does (T _ (M E _ (ev x (by simp)))) (fun o F=>by simp[execOp,F])⟩
 case slice t x lo hi m=>
   cases m with
   | some m=>
     cases lo with
     | some lo=>exact h.elim
     | none=>
       cases hi with
       | none=>exact h.elim
       | some hi=>
         simp only at h;obtain⟨x',h,M⟩:=aU (S:=S) (w:=w) h;obtain⟨ae,h,aa⟩:=aU (S:=S) (w:=w) h;obtain⟨m',h,hm⟩:=aU (S:=S) (w:=w) h;obtain⟨z,I,T⟩:=Df (S:=S) (w:=w) (H:=H) h;exact⟨z,I,fun E=>lU.of_does (T E _ _ _ (M E _ (ev x (by simp))) (aa E _ (ev hi (by simp))) (hm E _ (ev m (by simp)))) (fun o F=>by simp[execOp,F])⟩
   | none=>
     simp only at h;obtain⟨x',h,M⟩:=aU (S:=S) (w:=w) h;cases lo with
     | some lo=>
       cases hi with
       | some hi=>
         obtain⟨ah,h,ac⟩:=aU (S:=S) (w:=w) h;obtain⟨ae,h,aa⟩:=aU (S:=S) (w:=w) h;obtain⟨z,I,T⟩:=qP hH h;refine⟨z,I,fun E=>lU.of_does (T E _ (some (a.eval lo)) (some (a.eval hi)) (M E _ (ev x (by simp))) ?_ (by simp) ?_ (by simp)) (fun o F=>by simp[execOp,F])⟩
         . intro y O;injection O with O;subst O;exact⟨_,rfl,ac E _ (ev lo (by simp))⟩
         . intro y O;injection O with O;subst O;exact⟨_,rfl,aa E _ (ev hi (by simp))⟩
       | none=>
         obtain⟨ah,h,ac⟩:=aU (S:=S) (w:=w) h;obtain⟨z,I,T⟩:=qP hH h;refine⟨z,I,fun E=>lU.of_does (T E _ (some (a.eval lo)) none (M E _ (ev x (by simp))) ?_ (by simp) (by simp) (by simp)) (fun o F=>by simp[execOp,F])⟩;intro y O;injection O with O;subst O;exact⟨_,rfl,ac E _ (ev lo (by simp))⟩
     | none=>
       cases hi with
       | some hi=>
         obtain⟨ae,h,aa⟩:=aU (S:=S) (w:=w) h;obtain⟨z,I,T⟩:=qP hH h;refine⟨z,I,fun E=>lU.of_does (T E _ none (some (a.eval hi)) (M E _ (ev x (by simp))) (by simp) (by simp) ?_ (by simp)) (fun o F=>by simp[execOp,F])⟩;intro y O;injection O with O;subst O;exact⟨_,rfl,aa E _ (ev hi (by simp))⟩
       | none=>exact h.elim
 case fieldAddr t x f=>
   obtain⟨x',h,M⟩:=aU (S:=S) (w:=w) h;obtain⟨z,I,T⟩:=Dd (G:=G) (S:=S) (H:=H) (w:=w) h;exact⟨z,I,fun E=>lU.of_does (T E _ (M E _ (ev x (by simp)))) (fun o F=>by simp[execOp,F])⟩
 case field t x f=>
   split at h
   . rename_i o l F
     obtain⟨x',h,M⟩:=aU (S:=S) (w:=w) h;obtain⟨fs,fd,i,hu,hf,rfl,hi,_,hl⟩:=Af F;obtain⟨z,I,T⟩:=DS (S:=S) (H:=H) (w:=w) hl h;refine⟨z,I,fun E=>?_⟩;obtain⟨cs,e,T⟩:=T E _ (M E _ (ev x (by simp)));refine lU.of_does (s:=Instr.field t (.agg cs) f) ?_ (fun o F=>by simp[execOp,F,e]);obtain⟨v,hv,hr⟩:=T;refine⟨v,hv,fun w' ha=>?_⟩;simp[Instr.field,run_underlying hu,hf,asAgg,hr w' ha]
   . exact h.elim
 case indexAddr t x i=>
   obtain⟨x',h,M⟩:=aU (S:=S) (w:=w) h;obtain⟨i',h,hi⟩:=aU (S:=S) (w:=w) h;obtain⟨z,I,T⟩:=CA hH h;exact⟨z,I,fun E=>lU.of_does (T E _ _ (M E _ (ev x (by simp))) (hi E _ (ev i (by simp)))) (fun o F=>by simp[execOp,F])⟩
 case index t x i=>
   obtain⟨x',h,M⟩:=aU (S:=S) (w:=w) h;obtain⟨i',h,hi⟩:=aU (S:=S) (w:=w) h;obtain⟨z,I,T⟩:=Jv (S:=S) (H:=H) (w:=w) h;exact⟨z,I,fun E=>lU.of_does (T E _ _ (M E _ (ev x (by simp))) (hi E _ (ev i (by simp)))) (fun o F=>by simp[execOp,F])⟩
 case extract x i=>
   obtain⟨x',h,M⟩:=aU (S:=S) (w:=w) h;split at h
   . rename_i vs
     refine⟨_,h.2,fun E=>?_⟩;have e:=M E _ (ev x (by simp));simp only[rep]at e;obtain⟨l,e,hl⟩:=e;obtain⟨u,h1,h2⟩:=BC vs l i hl (h.1 E);exact⟨u,h2,fun w' _ o F=>by simp[execOp,F,e,Instr.extract,h1]⟩
   . exact h.elim
 case lookup t x i ok=>
   obtain⟨x',h,M⟩:=aU (S:=S) (w:=w) h;obtain⟨i',h,hi⟩:=aU (S:=S) (w:=w) h;obtain⟨z,I,T⟩:=GO (G:=G) hH h;exact⟨z,I,fun E=>lU.of_does (T E _ _ (M E _ (ev x (by simp))) (hi E _ (ev i (by simp)))) (fun o F=>by simp[execOp,F])⟩
 case makeFunc f first cap=>
   cases f <;> simp only at h <;> try exact h.elim
   rename_i f
   obtain⟨hf,h⟩:=h;subst hf;obtain⟨ys,I,af⟩:=mW hF cap.toList (fun x M=>hb x (by simp[Array.mem_toList_iff.1 M])) h;refine⟨_,I,fun E=>⟨.func (.func f) #[] (cap.map a.eval),?_,fun w' _ o F=>by simp[execOp,F,Instr.makeFunc]⟩⟩;simp only[rep];exact⟨cap.toList.map a.eval,by rw[<-Array.toList_map],af E⟩
theorem Bg{H':aH}{ρ:Env}{a:Act}{t:TypeId}{x:Operand}{lo F m:Option Operand}(hb:∀y∈(Op.slice t x lo F m).operands,opB a.tmps.size y=true)(hF:FR S w ρ a)(hH:yV S w H)(h:gK P G ρ H (.slice t x lo F m) K):
   ∃z,K z/\(gt G->lU P S H' w a (.slice t x lo F m) z):=by
 have ev:=fun x O=>cO hF (hb x O)
 simp only[gK]at h;simp only[Op.operands]at ev hb;cases m with
 | some m=>
   cases lo with
   | some lo=>exact h.elim
   | none=>
     cases F with
     | none=>exact h.elim
     | some F=>
       simp only at h;obtain⟨x',h,O⟩:=aU (S:=S) (w:=w) h;obtain⟨aa,h,I⟩:=aU (S:=S) (w:=w) h;obtain⟨m',h,hm⟩:=aU (S:=S) (w:=w) h;obtain⟨z,T,M⟩:=Df (S:=S) (w:=w) (H:=H') h;exact⟨z,T,fun u=>lU.of_does (M u _ _ _ (O u _ (ev x (by simp))) (I u _ (ev F (by simp))) (hm u _ (ev m (by simp)))) (fun o J=>by simp[execOp,J])⟩
 | none=>
   simp only at h;obtain⟨x',h,O⟩:=aU (S:=S) (w:=w) h;cases lo with
   | some lo=>
     cases F with
     | some F=>
       obtain⟨ab,h,Z⟩:=aU (S:=S) (w:=w) h;obtain⟨aa,h,I⟩:=aU (S:=S) (w:=w) h;obtain⟨z,T,M⟩:=qP hH h;refine⟨z,T,fun u=>lU.of_does (M u _ (some (a.eval lo)) (some (a.eval F)) (O u _ (ev x (by simp))) ?_ (by simp) ?_ (by simp)) (fun o J=>by simp[execOp,J])⟩
       . intro y E;injection E with E;subst E;exact⟨_,rfl,Z u _ (ev lo (by simp))⟩
       . intro y E;injection E with E;subst E;exact⟨_,rfl,I u _ (ev F (by simp))⟩
     | none=>
       obtain⟨ab,h,Z⟩:=aU (S:=S) (w:=w) h;obtain⟨z,T,M⟩:=qP hH h;refine⟨z,T,fun u=>lU.of_does (M u _ (some (a.eval lo)) none (O u _ (ev x (by simp))) ?_ (by simp) (by simp) (by simp)) (fun o J=>by simp[execOp,J])⟩;intro y E;injection E with E;subst E;exact⟨_,rfl,Z u _ (ev lo (by simp))⟩
   | none=>
     cases F with
     | some F=>
       obtain⟨aa,h,I⟩:=aU (S:=S) (w:=w) h;obtain⟨z,T,M⟩:=qP hH h;refine⟨z,T,fun u=>lU.of_does (M u _ none (some (a.eval F)) (O u _ (ev x (by simp))) (by simp) (by simp) ?_ (by simp)) (fun o J=>by simp[execOp,J])⟩;intro y E;injection E with E;subst E;exact⟨_,rfl,I u _ (ev F (by simp))⟩
     | none=>exact h.elim
end
end Go.Aw
end
section
namespace Go.Aw
def WQ:Array Value:=(Go.Lib.pow10Tab.map fun z=>Value.int .u64 z).toArray
def Pt:Array Value:=(Go.Lib.deBruijn64tab.map fun z:Nat=>Value.int .u8 (z:Int)).toArray
def UT:List (Nat×Array Value):=[(1,WQ),(3,Pt)]
end Go.Aw
end
