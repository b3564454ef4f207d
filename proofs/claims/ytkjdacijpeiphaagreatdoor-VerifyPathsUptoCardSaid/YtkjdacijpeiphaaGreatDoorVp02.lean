import Derived.MapKept
import Derived.Lib.ItoaMem
import Derived.Lib.TrailingZeros
import Derived.Test.YtkjdacijpeiphaaGreatDoorVp01
set_option linter.unusedSimpArgs false
set_option linter.unusedVariables false
set_option linter.defProp false
set_option maxRecDepth 100000
section
namespace Go.Aw
open Go.RowKit
structure Sg where
 ro:Nat->Prop
 fz:Nat->Prop
 loc:Nat->Value
 sz:Nat->Nat
 N:Nat
mutual
def rep(S:Sg)(w:World):AV->Value->Prop
 | .v x,y=>y=x
 | .any,_=>True
 | .sl es,y=>∃ad n c,y=.slice ad n c/\es.length=n/\n<=c/\c<=maxLen/\(es=[]\/∃b o sz,ad=some ⟨b,o,none⟩/\S.ro b/\0<sz/\fK S w b sz o es)
 | .rp cs off,y=>∃b o,y=.pointer (some ⟨b,o+off,none⟩)/\S.ro b/\cE S w b o cs
 | .agg cs,y=>∃l:List Value,y=.agg l.toArray/\aW S w cs l/\∀u∈l,u.oneCell'=true
 | .tup vs,y=>∃l:List Value,y=.tuple l.toArray/\aW S w vs l
 | .os k,y=>k<S.N/\y=S.loc k/\∃a n c,y=.slice a n c
 | .op k i f,y=>k<S.N/\∃g n c,S.loc k=.slice (some ⟨g,0,none⟩) n c/\y=.pointer (some ⟨g,i*S.sz k+f,none⟩)
 | .gd g x,y=>(g=true->rep S w x y)/\(g=false->y=undef)
 | .nf x,y=>rep S w x y
 | .fn f cap,y=>∃l:List Value,y=.func (.func f) #[] l.toArray/\aW S w cap l
 | .om k,y=>k<S.N/\y=S.loc k/\∃g,y=.map (some g)
 | .cl es,y=>∃ad n,y=.slice ad n n/\es.length=n/\n<=maxLen/\(es=[]\/∃b o sz,ad=some ⟨b,o,none⟩/\S.ro b/\0<sz/\fK S w b sz o es)
 | .oz k a b,y=>k<S.N/\∃ad n c ad' cc,S.loc k=.slice ad n c/\y=.slice ad' (b-a) cc/\a<=b/\b<=n/\(a<c->∃g,ad=some ⟨g,0,none⟩/\ad'=some ⟨g,a*S.sz k,none⟩)/\(a=0->ad'=ad/\cc=c)/\n<=c/\cc=c-a
def aW(S:Sg)(w:World):List AV->List Value->Prop
 | [],l=>l=[]
 | x::r,l=>∃u t,l=u::t/\rep S w x u/\aW S w r t
def cE(S:Sg)(w:World)(b:Nat):Nat->List AV->Prop
 | _,[]=>True
 | o,x::r=>(∃u,w.cell? ⟨b,o,none⟩=some u/\u.oneCell'=true/\rep S w x u)/\cE S w b (o+1) r
def fK(S:Sg)(w:World)(b sz:Nat):Nat->List (List AV)->Prop
 | _,[]=>True
 | o,cs::r=>cs.length=sz/\cE S w b o cs/\fK S w b sz (o+sz) r
end
structure Sg.le(S S':Sg):Prop where
 ro:∀k,S.ro k->S'.ro k
 N:S.N<=S'.N
 loc:∀k,k<S.N->S'.loc k=S.loc k
 sz:∀k,k<S.N->S'.sz k=S.sz k
def Sg.le_refl(S:Sg):S.le S:=⟨fun _ h=>h,Nat.le_refl _,fun _ _=>rfl,fun _ _=>rfl⟩
def Sg.le_trans{S S' E:Sg}(h:S.le S')(F:S'.le E):S.le E:=
 ⟨fun k A=>F.ro k (h.ro k A),Nat.le_trans h.N F.N,fun k A=>(F.loc k (Nat.lt_of_lt_of_le A h.N)).trans (h.loc k A),
  fun k A=>(F.sz k (Nat.lt_of_lt_of_le A h.N)).trans (h.sz k A)⟩
def blk:Value->Option Nat
 | .slice (some a) _ _=>some a.block
 | .map (some g)=>some g
 | _=>none
def eQ(S:Sg)(w w':World):Prop:=∀k,S.ro k->w'.heap[k]?=w.heap[k]?
def eQ.refl(S:Sg)(w:World):eQ S w w:=fun _ _=>rfl
section
variable{S S':Sg}{w w':World}
def eQ.cell(h:eQ S w w'){b o:Nat}(A:S.ro b):w'.cell? ⟨b,o,none⟩=w.cell? ⟨b,o,none⟩:=World.cell?_of_block (a:=⟨b,o,none⟩) (h b A)
mutual
def jM(A:S.le S')(F:eQ S w w'):∀(x:AV) (y:Value),rep S w x y->rep S' w' x y
 | .v _,_,h=>h
 | .any,_,_=>trivial
 | .sl es,y,h=>by
  simp only[rep]at h |-;obtain⟨ad,n,c,rfl,h1,U,O,I⟩:=h;refine⟨ad,n,c,rfl,h1,U,O,?_⟩;rcases I with I|⟨b,o,sz,rfl,E,M,T⟩
  ·exact .inl I
  ·exact .inr ⟨b,o,sz,rfl,A.ro b E,M,zU A F E sz o es T⟩
 | .rp cs off,y,h=>by simp only[rep]at h |-;obtain⟨b,o,rfl,E,Y⟩:=h;exact⟨b,o,rfl,A.ro b E,uF A F E o cs Y⟩
 | .agg cs,y,h=>by simp only[rep]at h |-;obtain⟨l,rfl,J,h1⟩:=h;exact⟨l,rfl,cZ A F cs l J,h1⟩
 | .tup vs,y,h=>by simp only[rep]at h |-;obtain⟨l,rfl,J⟩:=h;exact⟨l,rfl,cZ A F vs l J⟩
 | .os k,y,h=>by simp only[rep]at h |-;exact⟨Nat.lt_of_lt_of_le h.1 A.N,by rw[A.loc k h.1];exact h.2⟩
 | .op k i f,y,h=>by simp only[rep]at h |-;refine⟨Nat.lt_of_lt_of_le h.1 A.N,?_⟩;rw[A.loc k h.1,A.sz k h.1];exact h.2
 | .gd g x,y,h=>by simp only[rep]at h |-;exact⟨fun X=>jM A F x y (h.1 X),h.2⟩
 | .nf x,y,h=>by simp only[rep]at h |-;exact jM A F x y h
 | .fn f cap,y,h=>by simp only[rep]at h |-;obtain⟨l,rfl,J⟩:=h;exact⟨l,rfl,cZ A F cap l J⟩
 | .om k,y,h=>by simp only[rep]at h |-;exact⟨Nat.lt_of_lt_of_le h.1 A.N,by rw[A.loc k h.1];exact h.2⟩
 | .oz k a b,y,h=>by simp only[rep]at h |-;refine⟨Nat.lt_of_lt_of_le h.1 A.N,?_⟩;rw[A.loc k h.1,A.sz k h.1];exact h.2
 | .cl es,y,h=>by
  simp only[rep]at h |-;obtain⟨ad,n,rfl,h1,O,I⟩:=h;refine⟨ad,n,rfl,h1,O,?_⟩;rcases I with I|⟨b,o,sz,rfl,E,M,T⟩
  ·exact .inl I
  ·exact .inr ⟨b,o,sz,rfl,A.ro b E,M,zU A F E sz o es T⟩
def cZ(E:S.le S')(A:eQ S w w'):∀(x:List AV) (l:List Value),aW S w x l->aW S' w' x l
 | [],_,h=>h
 | x::r,l,h=>by simp only[aW]at h |-;obtain⟨u,t,rfl,h1,F⟩:=h;exact⟨u,t,rfl,jM E A x u h1,cZ E A r t F⟩
def uF(F:S.le S')(A:eQ S w w'){b:Nat}(E:S.ro b):∀(o:Nat) (x:List AV),cE S w b o x->cE S' w' b o x
 | _,[],_=>trivial
 | o,x::r,h=>by simp only[cE]at h |-;obtain⟨⟨u,h1,I,M⟩,J⟩:=h;exact⟨⟨u,by rw[A.cell E];exact h1,I,jM F A x u M⟩,uF F A E (o+1) r J⟩
def zU(A:S.le S')(E:eQ S w w'){b:Nat}(F:S.ro b)(sz:Nat):∀(o:Nat) (x:List (List AV)),fK S w b sz o x->fK S' w' b sz o x
 | _,[],_=>trivial
 | o,x::r,h=>by simp only[fK]at h |-;exact⟨h.1,uF A E F o x h.2.1,zU A E F sz (o+sz) r h.2.2⟩
end
def vM:∀(cs:List AV) (o j:Nat) {b:Nat},cE S w b o cs->j<cs.length->∃u,w.cell? ⟨b,o+j,none⟩=some u/\u.oneCell'=true/\rep S w (cs.getD j .any) u
 | [],_,_,_,_,h=>by simp at h
 | x::r,o,0,b,h,_=>by simp only[cE]at h;simpa using h.1
 | x::r,o,j+1,b,h,hj=>by simp only[cE]at h;have:=vM r (o+1) j h.2 (by simpa using hj);rw[show o+1+j=o+(j+1)by omega]at this;simpa using this
def uI:∀(cs:List AV) (o j:Nat) {b:Nat},cE S w b o cs->cE S w b (o+j) (cs.drop j)
 | [],_,_,_,_=>by simp[cE]
 | x::r,o,0,b,h=>by simpa using h
 | x::r,o,j+1,b,h=>by simp only[cE]at h;have:=uI r (o+1) j h.2;rw[show o+1+j=o+(j+1)by omega]at this;simpa using this
def tY:∀(cs:List AV) (o j:Nat) {b:Nat},cE S w b o cs->cE S w b o (cs.take j)
 | [],_,_,_,_=>by simp[cE]
 | x::r,o,0,b,h=>by simp[cE]
 | x::r,o,j+1,b,h=>by simp only[cE,List.take_succ_cons]at h |-;exact⟨h.1,tY r (o+1) j h.2⟩
def kA:∀(cs:List AV) (o:Nat) {b:Nat},cE S w b o cs->∃l:List Value,l.length=cs.length/\aW S w cs l/\(∀u∈l,u.oneCell'=true)/\∀j u,l[j]?=some u->w.cell? ⟨b,o+j,none⟩=some u
 | [],_,_,_=>⟨[],rfl,by simp[aW],by simp,by simp⟩
 | x::r,o,b,h=>by
  simp only[cE]at h;obtain⟨⟨u,h1,E,T⟩,F⟩:=h;obtain⟨l,O,J,I,M⟩:=kA r (o+1) F;refine⟨u::l,by simp[O],?_,?_,?_⟩
  ·simp only[aW];exact⟨u,l,rfl,T,J⟩
  ·intro v A;rcases List.mem_cons.1 A with rfl|A
   ·exact E
   ·exact I v A
  ·intro j v A;cases j with
   | zero=>simp at A;subst A;simpa using h1
   | succ j=>rw[show o+(j+1)=o+1+j by omega];exact M j v (by simpa using A)
def oK:∀(es:List (List AV)) (o i:Nat) {b sz:Nat},fK S w b sz o es->i<es.length->(es.getD i []).length=sz/\cE S w b (o+i*sz) (es.getD i [])
 | [],_,_,_,_,_,h=>by simp at h
 | x::r,o,0,b,sz,h,_=>by simp only[fK]at h;simpa using⟨h.1,h.2.1⟩
 | x::r,o,i+1,b,sz,h,hi=>by simp only[fK]at h;have:=oK r (o+sz) i h.2.2 (by simpa using hi);rw[show o+sz+i*sz=o+(i+1)*sz by rw[Nat.add_mul];omega]at this;simpa using this
def zD:∀(es:List (List AV)) (o i:Nat) {b sz:Nat},fK S w b sz o es->fK S w b sz (o+i*sz) (es.drop i)
 | [],_,_,_,_,_=>by simp[fK]
 | x::r,o,0,b,sz,h=>by simpa using h
 | x::r,o,i+1,b,sz,h=>by simp only[fK]at h;have:=zD r (o+sz) i h.2.2;rw[show o+sz+i*sz=o+(i+1)*sz by rw[Nat.add_mul];omega]at this;simpa using this
def uC:∀(es:List (List AV)) (o i:Nat) {b sz:Nat},fK S w b sz o es->fK S w b sz o (es.take i)
 | [],_,_,_,_,_=>by simp[fK]
 | x::r,o,0,b,sz,h=>by simp[fK]
 | x::r,o,i+1,b,sz,h=>by simp only[fK,List.take_succ_cons]at h |-;exact⟨h.1,h.2.1,uC r _ i h.2.2⟩
def pA:∀(xs A:List AV) (o:Nat) {b:Nat},cE S w b o (xs++A)↔cE S w b o xs/\cE S w b (o+xs.length) A
 | [],A,o,b=>by simp[cE]
 | x::r,A,o,b=>by simp only[List.cons_append,cE,pA r A (o+1),List.length_cons,show o+1+r.length=o+(r.length+1)by omega,and_assoc]
def tZ:∀(es:List (List AV)) (o:Nat) {b sz:Nat},fK S w b sz o es->cE S w b o es.flatten
 | [],_,_,_,_=>by simp[cE]
 | x::r,o,b,sz,h=>by simp only[fK]at h;rw[List.flatten_cons,pA];refine⟨h.2.1,?_⟩;rw[h.1];exact tZ r _ h.2.2
def mU:∀(es:List (List AV)) (o:Nat) {b sz:Nat},(∀cs∈es,cs.length=sz)->cE S w b o es.flatten->fK S w b sz o es
 | [],_,_,_,_,_=>by simp[fK]
 | x::r,o,b,sz,hl,h=>by rw[List.flatten_cons,pA]at h;have A:=hl x (by simp);rw[A]at h;simp only[fK];exact⟨A,h.1,mU r _ (fun cs E=>hl cs (by simp[E])) h.2⟩
def kO:∀(es:List (List AV)) {sz:Nat},(∀cs∈es,cs.length=sz)->es.flatten.length=es.length*sz
 | [],_,_=>by simp
 | x::r,sz,hl=>by rw[List.flatten_cons,List.length_append,hl x (by simp),kO r (fun cs A=>hl cs (by simp[A])),List.length_cons,Nat.add_mul];omega
def eZ:∀(x:List AV) (l:List Value),aW S w x l->l.length=x.length
 | [],l,h=>by simp only[aW]at h;simp[h]
 | x::r,l,h=>by simp only[aW]at h;obtain⟨u,t,rfl,_,A⟩:=h;simp[eZ r t A]
def Aa:∀(x:List AV) (l:List Value) (j:Nat),aW S w x l->j<x.length->∃u,l[j]?=some u/\rep S w (x.getD j .any) u
 | [],_,_,_,h=>by simp at h
 | x::r,l,j,h,hj=>by
  simp only[aW]at h;obtain⟨u,t,rfl,h1,E⟩:=h;cases j with
  | zero=>exact⟨u,by simp,by simpa using h1⟩
  | succ j=>obtain⟨v,A,F⟩:=Aa r t j E (by simpa using hj);exact⟨v,by simpa using A,by simpa using F⟩
def cJ:∀(x y:List AV) (l m:List Value),aW S w x l->aW S w y m->aW S w (x++y) (l++m)
 | [],y,l,m,h,h'=>by simp only[aW]at h;subst h;simpa using h'
 | x::r,y,l,m,h,h'=>by simp only[aW]at h;obtain⟨u,t,rfl,h1,A⟩:=h;simp only[List.cons_append,aW];exact⟨u,t++m,rfl,h1,cJ r y t m A h'⟩
def oL:∀(x:List AV) (l:List Value) (j:Nat),aW S w x l->aW S w (x.drop j) (l.drop j)
 | [],l,j,h=>by simp only[aW]at h;subst h;simp[aW]
 | x::r,l,j,h=>by
  cases j with
  | zero=>simpa using h
  | succ j=>simp only[aW]at h;obtain⟨u,t,rfl,_,A⟩:=h;simpa using oL r t j A
def oO:∀(x:List AV) (l:List Value) (j:Nat),aW S w x l->aW S w (x.take j) (l.take j)
 | [],l,j,h=>by simp only[aW]at h;subst h;simp[aW]
 | x::r,l,j,h=>by
  cases j with
  | zero=>simp[aW]
  | succ j=>simp only[aW]at h;obtain⟨u,t,rfl,h1,A⟩:=h;simp only[List.take_succ_cons,aW];exact⟨u,t.take j,rfl,h1,oO r t j A⟩
def gF:∀(x:List AV) (l:List Value) (o:Nat) {b:Nat},aW S w x l->(∀u∈l,u.oneCell'=true)->(∀j u,l[j]?=some u->w.cell? ⟨b,o+j,none⟩=some u)->cE S w b o x
 | [],_,_,_,_,_,_=>by simp[cE]
 | x::r,l,o,b,h,h1,hc=>by simp only[aW]at h;obtain⟨u,t,rfl,E,F⟩:=h;simp only[cE];refine⟨⟨u,by simpa using hc 0 u (by simp),h1 u (by simp),E⟩,gF r t (o+1) F (fun v A=>h1 v (by simp[A])) fun j v A=>?_⟩;rw[show o+1+j=o+(j+1)by omega];exact hc (j+1) v (by simpa using A)
end
end Go.Aw
end
section
namespace Go.Aw
open Go.RowKit
def iU(S:Sg)(w:World):Nat->List (List AV)->List MapEntry->Prop
 | _,[],ms=>ms=[]
 | i,cs::r,ms=>∃m t,ms=m::t/\m.born=i/\aW S w cs [m.key,m.val]/\iU S w (i+1) r t
def Ht(S:Sg)(w:World)(k:Nat)(r:Row):Prop:=∃xs,w.ownsRow 0 r.e r.sz (S.loc k) r.es.length xs/\aW S w r.es.flatten xs/\∀u∈xs,u.oneCell'=true
def Vb(S:Sg)(w:World)(k:Nat)(r:Row):Prop:=∃g ms,S.loc k=.map (some g)/\w.heap[g]?=some (.map (List.toArray ms) ms.length)/\iU S w 0 r.es ms/\r.sz=2
def Zn(a:Option Addr)(n c:Nat):blk (.slice a n c)=(Value.slice a n c).ownBlock:=by cases a <;> rfl
structure RowOK(S:Sg)(w:World)(k:Nat)(r:Row):Prop where
 lt:k<S.N
 sz:r.sz=S.sz k
 pos:0<r.sz
 len:∀cs∈r.es,cs.length=r.sz
 own:Ht S w k r\/Vb S w k r
def vP(S:Sg)(w:World)(H:aG):Prop:=∀k r,H k=some r->RowOK S w k r
def RowOK.sl{S:Sg}{w:World}{k:Nat}{r:Row}(h:RowOK S w k r){a:Option Addr}{n c:Nat}(A:S.loc k=.slice a n c):Ht S w k r:=by
 rcases h.own with h1|⟨g,ms,h1,_⟩
 ·exact h1
 ·rw[A]at h1;cases h1
def RowOK.mp{S:Sg}{w:World}{k:Nat}{r:Row}(h:RowOK S w k r){g:Nat}(A:S.loc k=.map (some g)):Vb S w k r:=by
 rcases h.own with⟨xs,E,_⟩|h1
 ·rcases E.2 with⟨hv,_⟩|⟨_,_,_,hv,_⟩ <;> (rw[A]at hv;cases hv)
 ·exact h1
structure Agree(S:Sg)(H:aG)(w w':World):Prop where
 kept:eQ S w w'
 own:∀k r,H k=some r->∀g,blk (S.loc k)=some g->w'.heap[g]?=w.heap[g]?
def Agree.refl(S:Sg)(H:aG)(w:World):Agree S H w w:=⟨eQ.refl S w,fun _ _ _ _ _=>rfl⟩
def tN(P:Program)(S:Sg)(H:aG)(w:World)(z:AV)(e:Sem Value):Prop:=
 ∃v,rep S w z v/\∀w',Agree S H w w'->e.run P w'=.ok v w'
section
variable{P:Program}{S:Sg}{H:aG}{w:World}{G:Option Bool}{K:AV->Prop}
def iT{x:Value}:rep S w (.v x) x:=by simp only[rep]
def rT{t:TypeId}{l:Option Nat}(h:ldT P t=some l):∃d,P.underlying t=some d /\
  match l with
  | none=>(∀fs,d≠.struct fs)/\∀n e,d≠.array n e
  | some n=>((∃fs,d=.struct fs)\/∃m e,d=.array m e)/\∃i,P.info? t=some i/\i.size=n:=by
 unfold ldT at h;cases A:P.underlying t with
 | none=>rw[A]at h;simp at h
 | some d=>
  refine⟨d,rfl,?_⟩;rw[A]at h;cases E:P.info? t with
  | none=>rw[E]at h;cases d <;> simp at h
  | some i=>rw[E]at h;cases d <;> simp at h <;> subst h <;> simp
def oF{t:TypeId}{l:Option Nat}(h:ldT P t=some l)(w:World):(isAgg t).run P w=.ok l.isSome w:=by
 obtain⟨d,A,E⟩:=rT h;cases l with
 | none=>obtain⟨h1,F⟩:=E;simp only[isAgg,Sem.run_bind,run_underlying A,Result.andThen];cases d <;> simp_all
 | some n=>obtain⟨h1,_⟩:=E;simp only[isAgg,Sem.run_bind,run_underlying A,Result.andThen];rcases h1 with⟨fs,rfl⟩|⟨m,e,rfl⟩ <;> simp
def rE{t:TypeId}{n:Nat}(h:ldT P t=some (some n))(w:World):(sizeOf t).run P w=.ok n w:=by obtain⟨d,F,A⟩:=rT h;obtain⟨_,i,E,rfl⟩:=A;simp[sizeOf,typeInfo,E]
def uL{t:TypeId}(h:ldT P t=some none){a:Addr}{v:Value}(A:w.cell? a=some v):(loadVar t a).run P w=.ok v w:=by simp[loadVar,oF h,A]
def sS{t:TypeId}{l:List Value}(h:ldT P t=some (some l.length)){b o:Nat}(E:∀j v,l[j]?=some v->w.cell? ⟨b,o+j,none⟩=some v):
  (loadVar t ⟨b,o,none⟩).run P w=.ok (.agg l.toArray) w:=by
 have:=run_loadCells_list (P:=P) w ⟨b,o,none⟩ l (fun j v A=>by rw[Addr.add_lit];exact E j v A);simp[loadVar,oF h,rE h,this]
def RowOK.cells{k:Nat}{r:Row}(h:RowOK S w k r){I:Option Addr}{J X:Nat}(M:S.loc k=.slice I J X)(A:r.es≠[]):∃g n c,S.loc k=.slice (some ⟨g,0,none⟩) n c/\cE S w g 0 r.es.flatten/\n=r.es.length:=by
 obtain⟨xs,E,O,h1⟩:=h.sl M;rcases E.2 with⟨_,T⟩|⟨g,cap,cur,F,_⟩
 ·exact absurd (List.eq_nil_of_length_eq_zero T) A
 ·refine⟨g,_,cap,F,?_,rfl⟩;refine gF _ xs 0 O h1 fun j u U=>?_
  have:=E.cells (g:=g) (by rw[F];rfl) j u U
  rwa [Addr.add_lit]at this
def RowOK.els{k:Nat}{r:Row}(h:RowOK S w k r){E:Option Addr}{F O:Nat}(J:S.loc k=.slice E F O)(A:r.es≠[]):∃g n c,S.loc k=.slice (some ⟨g,0,none⟩) n c/\fK S w g r.sz 0 r.es/\n=r.es.length:=by obtain⟨g,n,c,h1,I,M⟩:=h.cells J A;exact⟨g,n,c,h1,mU _ _ h.len I,M⟩
def Agree.cell{w':World}(A:Agree S H w w'){b o:Nat}{u:Value}(E:S.ro b)(h:w.cell? ⟨b,o,none⟩=some u):w'.cell? ⟨b,o,none⟩=some u:=(A.kept.cell E).trans h
def Agree.cellOwn{w':World}(A:Agree S H w w'){k g n c o:Nat}{r:Row}{u:Value}(E:H k=some r)(F:S.loc k=.slice (some ⟨g,0,none⟩) n c)(h:w.cell? ⟨g,o,none⟩=some u):w'.cell? ⟨g,o,none⟩=some u:=by have:=A.own k r E g (by rw[F];rfl);exact(World.cell?_of_block (a:=⟨g,o,none⟩) this).trans h
def Ct{t:TypeId}{l:Option Nat}{x:AV}(U:ldT P t=some l)(hH:vP S w H)(h:lY G H l x K):
  ∃z,K z/\(gt G->∀u,rep S w x u->tN P S H w z (Instr.loadAt t u)):=by
 unfold lY at h;split at h
 ·rename_i cs off;cases l with
  | none=>refine⟨_,h.2,fun M u I=>?_⟩;simp only[rep]at I;obtain⟨b,o,rfl,hb,hc⟩:=I;obtain⟨v,h1,_,h3⟩:=vM cs o off hc (h.1 M);refine⟨v,h3,fun w' T=>?_⟩;simp[Instr.loadAt,Instr.sureAddr,uL U (T.cell hb h1)]
  | some n=>
   refine⟨_,h.2,fun M u I=>?_⟩;simp only[rep]at I;obtain⟨b,o,rfl,hb,hc⟩:=I;obtain⟨l,F,Y,Z,X⟩:=kA _ _ (tY _ _ n (uI cs o off hc));have aa:=h.1 M;have hn:l.length=n:=by rw[F];simp;omega
   refine⟨.agg l.toArray,by simp only[rep];exact⟨l,rfl,Y,Z⟩,fun w' T=>?_⟩;rw[<-hn]at U;simp[Instr.loadAt,Instr.sureAddr,sS U (fun j v hj=>T.cell hb (X j v hj))]
 ·rename_i k i f;split at h
  ·rename_i r hk;have hr:=hH k r hk;cases l with
   | none=>
    refine⟨_,h.2,fun M u I=>?_⟩;simp only[rep]at I;obtain⟨_,g,n,c,E,rfl⟩:=I;obtain⟨J,hf⟩:=h.1 M;have O:r.es≠[]:=fun e=>by rw[e]at J;simp at J
    obtain⟨g',n',c',A,he,_⟩:=hr.els E O;rw[E]at A;injection A with F Y Z;injection F with F;injection F with F;subst F;obtain⟨X,e5⟩:=oK _ 0 i he J;obtain⟨v,h1,_,h3⟩:=vM _ _ f e5 (by rw[X];exact hf);refine⟨v,h3,fun w' T=>?_⟩;rw[<-hr.sz];rw[Nat.zero_add]at h1;simp[Instr.loadAt,Instr.sureAddr,uL U (T.cellOwn hk E h1)]
   | some m=>
    refine⟨_,h.2,fun M u I=>?_⟩;simp only[rep]at I;obtain⟨_,g,n,c,E,rfl⟩:=I;obtain⟨J,hf⟩:=h.1 M;have O:r.es≠[]:=fun e=>by rw[e]at J;simp at J
    obtain⟨g',n',c',A,he,_⟩:=hr.els E O;rw[E]at A;injection A with F Y Z;injection F with F;injection F with F;subst F;obtain⟨X,e5⟩:=oK _ 0 i he J;obtain⟨l,F,Y,Z,e6⟩:=kA _ _ (tY _ _ m (uI _ _ f e5));have hn:l.length=m:=by rw[F,List.length_take,List.length_drop,X];omega
    refine⟨.agg l.toArray,by simp only[rep];exact⟨l,rfl,Y,Z⟩,fun w' T=>?_⟩;rw[<-hn]at U;rw[<-hr.sz];rw[Nat.zero_add]at e6;simp[Instr.loadAt,Instr.sureAddr,sS U (fun j v hj=>T.cellOwn hk E (e6 j v hj))]
  ·exact h.elim
 ·exact h.elim
def lK{t:TypeId}(h:ldT P t=some none){l:List Value}{o:Nat}{u:Value}(A:l[o]?=some u):(part t l.toArray o).run P w=.ok u w:=by simp[part,oF h,A]
def EZ{t:TypeId}{n:Nat}(h:ldT P t=some (some n)){l:List Value}{o:Nat}:(part t l.toArray o).run P w=.ok (.agg ((l.drop o).take n).toArray) w:=by simp[part,oF h,rE h,List.extract_eq_take_drop]
def Ck{t:TypeId}{l:Option Nat}{x:AV}{off:Nat}(F:ldT P t=some l)(h:apart G off l x K):
  ∃z,K z/\(gt G->∀u,rep S w x u->∃cs:Array Value,u=.agg cs/\tN P S H w z (part t cs off)):=by
 unfold apart at h;split at h
 ·rename_i cs;cases l with
  | none=>refine⟨_,h.2,fun E u A=>?_⟩;simp only[rep]at A;obtain⟨l,rfl,h1,_⟩:=A;obtain⟨v,M,J⟩:=Aa cs l off h1 (h.1 E);exact⟨_,rfl,v,J,fun w' _=>lK F M⟩
  | some n=>refine⟨_,h.2,fun E u A=>?_⟩;simp only[rep]at A;obtain⟨l,rfl,h1,I⟩:=A;refine⟨_,rfl,_,?_,fun w' _=>EZ F⟩;simp only[rep];exact⟨_,rfl,oO _ _ n (oL _ _ off h1),fun u A=>I u (List.mem_of_mem_drop (List.mem_of_mem_take A))⟩
 ·exact h.elim
def yC{t:TypeId}{f o:Nat}{l:Option Nat}(h:aK P t f=some (o,l)):
  ∃fs A i,P.underlying t=some (.struct fs)/\fs[f]?=some A/\A.offset=o/\P.info? A.type=some i/\i.size≠0/\ldT P A.type=some l:=by
 unfold aK at h;cases J:P.underlying t with
 | none=>simp[J]at h
 | some d=>
  cases d <;> simp only[J]at h <;> try (simp at h;done)
  rename_i fs;cases F:fs[f]? with
  | none=>simp[F]at h
  | some A=>
   simp only[F]at h;cases E:P.info? A.type with
   | none=>simp[E]at h
   | some i=>
    simp only[E]at h;split at h
    ·simp at h
    ·rename_i M;cases I:ldT P A.type with
     | none=>simp[I]at h
     | some l'=>simp[I]at h;obtain⟨rfl,rfl⟩:=h;exact⟨fs,A,i,rfl,F,rfl,E,M,I⟩
def CA{t:TypeId}{f o:Nat}{l:Option Nat}(h:aK P t f=some (o,l))(b p:Nat)(w:World):
  (Instr.fieldAt t (.pointer (some ⟨b,p,none⟩)) f).run P w=.ok (.pointer (some ⟨b,p+o,none⟩)) w:=by
 obtain⟨fs,J,i,A,F,rfl,E,I,_⟩:=yC h;simp[Instr.fieldAt,run_underlying A,F,Instr.sureAddr,fieldPlace,sizeOf,typeInfo,E,I,Addr.add_lit]
def A9{t:TypeId}{f:Nat}{x:AV}(h:gW P t f x K):
  ∃z,K z/\(gt G->∀u,rep S w x u->tN P S H w z (Instr.fieldAt t u f)):=by
 unfold gW at h;split at h
 ·rename_i cs off;split at h
  ·rename_i o l E;refine⟨_,h,fun _ u A=>?_⟩;simp only[rep]at A;obtain⟨b,p,rfl,I,J⟩:=A;refine⟨_,?_,fun w' _=>CA E b (p+off) w'⟩;simp only[rep];exact⟨b,p,by rw[Nat.add_assoc],I,J⟩
  ·exact h.elim
 ·rename_i k i g;split at h
  ·rename_i o l E;refine⟨_,h,fun _ u A=>?_⟩;simp only[rep]at A;obtain⟨h1,b,n,c,F,rfl⟩:=A;refine⟨_,?_,fun w' _=>CA E b _ w'⟩;simp only[rep];exact⟨h1,b,n,c,F,by rw[Nat.add_assoc]⟩
  ·exact h.elim
 ·exact h.elim
def eN{t:TypeId}{e sz A:Nat}(h:bN P t=some (e,sz,A)):
  ∃i z,P.underlying t=some (.slice e)/\P.info? e=some i/\i.size=sz/\i.bytes=A/\0<sz/\0<A/\i.zero=some z/\z.cells.size=sz:=by
 unfold bN at h;cases M:P.underlying t with
 | none=>simp[M]at h
 | some d=>
  cases d <;> simp only[M]at h <;> try (simp at h;done)
  rename_i O;cases E:P.info? O with
  | none=>simp[E]at h
  | some i=>
   simp only[E]at h;split at h
   ·simp at h
   ·rename_i J;simp at h;obtain⟨rfl,rfl,rfl⟩:=h;simp only[not_or,ne_eq,Decidable.not_not]at J;obtain⟨h1,T,F⟩:=J;cases I:i.zero with
    | none=>simp[I]at F
    | some z=>simp[I]at F;exact⟨i,z,rfl,E,rfl,rfl,by omega,by omega,I,F⟩
def GF{t:TypeId}{n s:Nat}{l:Option Nat}(h:zC P t=some (n,s,l)):
  ∃e i,P.underlying t=some (.array n e)/\P.info? e=some i/\i.size=s/\s≠0/\ldT P e=some l:=by
 unfold zC at h;cases F:P.underlying t with
 | none=>simp[F]at h
 | some d=>
  cases d <;> simp only[F]at h <;> try (simp at h;done)
  rename_i m e;cases A:P.info? e with
  | none=>simp[A]at h
  | some i=>
   simp only[A]at h;split at h
   ·simp at h
   ·rename_i I;cases E:ldT P e with
    | none=>simp[E]at h
    | some l'=>simp[E]at h;obtain⟨rfl,rfl,rfl⟩:=h;exact⟨e,i,rfl,A,rfl,I,E⟩
def pR{t:TypeId}{e sz A:Nat}(h:bN P t=some (e,sz,A))(b o len cap:Nat)(k:IntKind)(i:Int)(h0:0<=i)(h1:i<len)(w:World):
  (Instr.indexAt t (.slice (some ⟨b,o,none⟩) len cap) (.int k i)).run P w=.ok (.pointer (some ⟨b,o+i.toNat*sz,none⟩)) w:=by
 obtain⟨E,z,F,I,rfl,_⟩:=eN h;simp[Instr.indexAt,run_underlying F,asIntOf,h0,h1,sizeOf,typeInfo,I,Addr.add_lit]
def uK{t:TypeId}{n s:Nat}{l:Option Nat}(h:zC P t=some (n,s,l))(b o:Nat)(k:IntKind)(i:Int)(h0:0<=i)(h1:i<n)(w:World):
  (Instr.indexAt t (.pointer (some ⟨b,o,none⟩)) (.int k i)).run P w=.ok (.pointer (some ⟨b,o+i.toNat*s,none⟩)) w:=by
 obtain⟨e,A,E,F,rfl,_⟩:=GF h;simp[Instr.indexAt,run_underlying E,asIntOf,h0,h1,Instr.sureAddr,sizeOf,typeInfo,F,Addr.add_lit]
def BH{t:TypeId}{x i:AV}(hH:vP S w H)(h:dO P G H t x i K):
  ∃z,K z/\(gt G->∀u v,rep S w x u->rep S w i v->tN P S H w z (Instr.indexAt t u v)):=by
 unfold dO at h;split at h
 ·rename_i es k n;split at h
  ·rename_i e sz J U;refine⟨_,h.2,fun M u v I F=>?_⟩;obtain⟨⟨h0,h1⟩,X⟩:=h.1 M;simp only[rep]at I F;subst F;obtain⟨ad,m,c,rfl,e1,_,_,e2⟩:=I;rcases e2 with rfl|⟨b,o,ac,rfl,hb,_,Z⟩
   ·simp at h1;omega
   ·have E:n.toNat<es.length:=by omega
    obtain⟨e3,e4⟩:=oK es o n.toNat Z E;have aa:ac=sz:=by rw[<-e3,X]
    subst aa;refine⟨_,?_,fun w' _=>pR U b o m c k n h0 (by omega) w'⟩;simp only[rep];exact⟨b,_,by rw[Nat.add_zero],hb,e4⟩
  ·exact h.elim
 ·rename_i k Y n;split at h
  ·rename_i r e sz J hk U;refine⟨_,h.2,fun M u v I F=>?_⟩;obtain⟨⟨h0,h1⟩,X⟩:=h.1 M;have hr:=hH k r hk;have ab:r.es≠[]:=fun e=>by rw[e]at h1;simp at h1;omega
   simp only[rep]at I F;subst F;obtain⟨E,rfl,_,_,_,O⟩:=I;obtain⟨g,m,c,A,_,hm⟩:=hr.els O ab;rw[A];refine⟨_,?_,fun w' _=>pR U g 0 m c Y n h0 (by omega) w'⟩;simp only[rep];exact⟨E,g,m,c,A,by rw[<-hr.sz,X];simp⟩
  ·exact h.elim
 ·rename_i k a b Y n;split at h
  ·rename_i r e sz J hk U;refine⟨_,h.2,fun M u v I F=>?_⟩;obtain⟨⟨h0,h1⟩,X⟩:=h.1 M;have hr:=hH k r hk;simp only[rep]at I F;subst F;obtain⟨E,ad,m,c,ah,cc,A,rfl,af,ag,T,_,ae,_⟩:=I;obtain⟨g,rfl,rfl⟩:=T (by omega);refine⟨_,?_,fun w' _=>pR U g (a*S.sz k) (b-a) cc Y n h0 (by omega) w'⟩;simp only[rep];exact⟨E,g,m,c,A,by rw[<-X,hr.sz,Nat.add_mul,Nat.add_zero]⟩
  ·exact h.elim
 ·rename_i cs off k n;split at h
  ·rename_i m s l ha;refine⟨_,h.2,fun M u v I F=>?_⟩;obtain⟨h0,h1⟩:=h.1 M;simp only[rep]at I F;subst F;obtain⟨b,o,rfl,hb,hc⟩:=I;refine⟨_,?_,fun w' _=>uK ha b (o+off) k n h0 h1 w'⟩;simp only[rep];exact⟨b,o,by rw[Nat.add_assoc],hb,hc⟩
  ·exact h.elim
 ·rename_i k j f Y n;split at h
  ·rename_i m s l ha;refine⟨_,h.2,fun M u v I F=>?_⟩;obtain⟨h0,h1⟩:=h.1 M;simp only[rep]at I F;subst F;obtain⟨E,g,n',c,A,rfl⟩:=I;refine⟨_,?_,fun w' _=>uK ha g _ Y n h0 h1 w'⟩;simp only[rep];exact⟨E,g,n',c,A,by rw[Nat.add_assoc]⟩
  ·exact h.elim
 ·exact h.elim
def qN{t:TypeId}(h:bS P t=true):∃e,P.underlying t=some (.slice e):=by
 unfold bS at h;split at h
 ·rename_i e A;exact⟨e,A⟩
 ·simp at h
def eO{t:TypeId}(h:dS P t=true):P.underlying t=some .string:=by
 unfold dS at h;split at h
 ·rename_i A;exact A
 ·simp at h
def Q4{t:TypeId}(h:OY P t=true):∃e,P.underlying t=some (.pointer e):=by
 unfold OY at h;split at h
 ·rename_i e A;exact⟨e,A⟩
 ·simp at h
def OR{t:TypeId}(h:xA P t=true):P.underlying t=some .bool:=by
 unfold xA at h;split at h
 ·rename_i A;exact A
 ·simp at h
def Eb{t ty:TypeId}{x:AV}(U:vP S w H)(h:Ei P H t x K):
  ∃z,K z/\(gt G->∀u,rep S w x u->tN P S H w z (Builtin.len_ #[t] ty #[u])):=by
 unfold Ei at h;split at h
 ·rename_i es;split at h
  ·rename_i E;obtain⟨e,I⟩:=qN E;refine⟨_,h,fun _ u A=>?_⟩;simp only[rep]at A;obtain⟨ad,m,c,rfl,Y,_⟩:=A;refine⟨_,iT,fun w' _=>?_⟩;simp[Builtin.len_,run_underlying I,goInt,Y]
  ·exact h.elim
 ·rename_i k;split at h
  ·rename_i r X;split at h
   ·rename_i E;obtain⟨e,I⟩:=qN E;refine⟨_,h,fun _ u A=>?_⟩;simp only[rep]at A;obtain⟨_,rfl,_,_,_,F⟩:=A;obtain⟨xs,M,_⟩:=(U k r X).sl F;refine⟨_,iT,fun w' _=>?_⟩;rcases M.2 with⟨J,T⟩|⟨g,cap,cur,J,_⟩
    ·simp[Builtin.len_,run_underlying I,goInt,J,T]
    ·simp[Builtin.len_,run_underlying I,goInt,J]
   ·exact h.elim
  ·exact h.elim
 ·split at h
  ·rename_i E;obtain⟨e,I⟩:=qN E;refine⟨_,h,fun _ u A=>?_⟩;simp only[rep]at A;obtain⟨_,ad,n,c,O,Z,_,rfl,_⟩:=A;refine⟨_,iT,fun w' _=>?_⟩;simp[Builtin.len_,run_underlying I,goInt]
  ·exact h.elim
 ·rename_i s;split at h
  ·rename_i E;refine⟨_,h,fun _ u A=>?_⟩;simp only[rep]at A;subst A;refine⟨_,iT,fun w' _=>?_⟩;simp[Builtin.len_,run_underlying (eO E),goInt]
  ·exact h.elim
 ·exact h.elim
def DE{x y:AV}{tys:Array TypeId}{ty:TypeId}(h:NR x y K):
  ∃z,K z/\(gt G->∀u v,rep S w x u->rep S w y v->tN P S H w z (Builtin.max_ tys ty #[u,v])):=by
 unfold NR at h;split at h
 ·refine⟨_,h,fun _ u v E A=>?_⟩;simp only[rep]at E A;subst E;subst A;exact⟨_,iT,fun w' _=>by simp[Builtin.max_,Builtin.max2,jL]⟩
 ·exact h.elim
def Ea{x y:AV}{tys:Array TypeId}{ty:TypeId}(h:MI x y K):
  ∃z,K z/\(gt G->∀u v,rep S w x u->rep S w y v->tN P S H w z (Builtin.min_ tys ty #[u,v])):=by
 unfold MI at h;split at h
 ·refine⟨_,h,fun _ u v E A=>?_⟩;simp only[rep]at E A;subst E;subst A;exact⟨_,iT,fun w' _=>by simp[Builtin.min_,Builtin.min2,WL]⟩
 ·exact h.elim
end
end Go.Aw
end
section
namespace Go.Aw
open Go.RowKit
section
variable{P:Program}{S:Sg}{H:aG}{w:World}{G:Option Bool}{K:AV->Prop}
def fL{z:AV}{e:Sem Value}{v:Value}(A:rep S w z v)(h:∀w',e.run P w'=.ok v w'):tN P S H w z e:=⟨v,A,fun w' _=>h w'⟩
def jU{t:TypeId}{c:Nat}(h:qZ P t=some c):(c=0/\∃k,P.underlying t=some (.int k))\/(c=1/\P.underlying t=some .string)\/(c=2/\P.underlying t=some .bool):=by unfold qZ at h;split at h <;> simp_all
def PD{t:TypeId}{c:Nat}(h:qZ P t=some c)(A:(P.info? t).isSome=true):ldT P t=some none:=by obtain⟨i,A⟩:=Option.isSome_iff_exists.1 A;unfold ldT;rw[A];rcases jU h with⟨_,k,hk⟩|⟨_,hk⟩|⟨_,hk⟩ <;> rw[hk]
def sK{t:TypeId}{c:Nat}{x y:AV}{u v:Value}{b:Bool}{d:Nat}(J:qZ P t=some c)(h:rM c x y=some b)(F:rep S w x u)(E:rep S w y v)(w':World):
  (Op.equalIn (d+1) t u v).run P w'=.ok b w':=by
 unfold rM at h;split at h
 ·split at h
  ·simp only[rep]at F E;subst F E;rename_i I;subst I;simp at h;rcases jU J with⟨_,k',A⟩|⟨h0,_⟩|⟨h0,_⟩
   ·rw[run_equalIn_int w' d t _ k' _ _ A,h]
   ·simp at h0
   ·simp at h0
  ·simp at h
 ·simp only[rep]at F E;subst F E;rcases jU J with⟨h0,_⟩|⟨_,A⟩|⟨h0,_⟩
  ·simp at h0
  ·rw[run_equalIn_string w' d t _ _ A];injection h with h;rw[h]
  ·simp at h0
 ·simp only[rep]at F E;subst F E;rcases jU J with⟨h0,_⟩|⟨h0,_⟩|⟨_,A⟩
  ·simp at h0
  ·simp at h0
  ·rw[run_equalIn_bool' w' d t _ _ A];injection h with h;rw[h]
 ·simp at h
def pW:∀(fs:List Field) (l:List Nat) (xs ys:List AV) (o:Nat) (us vs pu pv:List Value) (b:Bool) (d:Nat),
  mT P o fs=some l->fJ l xs ys=some b->aW S w xs us->aW S w ys vs->pu.length=o->pv.length=o->∀w':World,
  (Op.eqFields (d+1) (pu++us).toArray (pv++vs).toArray fs).run P w'=.ok b w'
 | [],l,xs,ys,o,us,vs,pu,pv,b,d,A,he,_,_,_,_,w'=>by simp only[mT]at A;injection A with A;subst A;cases xs <;> cases ys <;> simp[fJ]at he;subst he;simp[Op.eqFields]
 | f::fs,l,xs,ys,o,us,vs,pu,pv,b,d,A,he,hx,hy,e1,e2,w'=>by
  simp only[mT]at A;split at A
  ·rename_i Z;simp only[Bool.and_eq_true,bne_iff_ne,ne_eq,beq_iff_eq]at Z;obtain⟨⟨hn,Y⟩,hi⟩:=Z;cases O:qZ P f.type with
   | none=>simp[O]at A
   | some c=>
    cases X:mT P (o+1) fs with
    | none=>simp[O,X]at A
    | some l'=>
     simp[O,X]at A;subst A;cases xs with
     | nil=>simp[fJ]at he
     | cons x xs=>
      cases ys with
      | nil=>simp[fJ]at he
      | cons y ys=>
       simp only[fJ]at he;cases E:rM c x y with
       | none=>simp[E,KZ]at he
       | some b1=>
        cases F:fJ l' xs ys with
        | none=>simp[E,F,KZ]at he
        | some b2=>
         simp[E,F,KZ]at he;simp only[aW]at hx hy;obtain⟨u,I,rfl,hu,U⟩:=hx;obtain⟨v,M,rfl,hv,T⟩:=hy;have J:=PD O hi;have p1:∀w':World,(part f.type (pu++u::I).toArray f.offset).run P w'=.ok u w':=fun w'=>lK (w:=w') J (by rw[Y,<-e1];simp)
         have p2:∀w':World,(part f.type (pv++v::M).toArray f.offset).run P w'=.ok v w':=fun w'=>lK (w:=w') J (by rw[Y,<-e2];simp)
         have q:=sK (d:=d) O E hu hv;have ih:=pW fs l' xs ys (o+1) I M (pu++[u]) (pv++[v]) b2 d X F U T (by simp[e1]) (by simp[e2]) w';simp only[List.append_assoc,List.singleton_append]at ih;simp only[Op.eqFields,hn,ne_eq,not_false_eq_true,if_true,Sem.run_bind,p1,p2,q,Result.andThen_ok,Sem.run_ite];subst he;cases b1
         ·simp
         ·simp only[Bool.not_true,Bool.false_eq_true,if_false,Bool.true_and];exact ih
  ·simp at A
def AI{e:TypeId}{c:Nat}(T:qZ P e=some c)(U:(P.info? e).isSome=true){d:Nat}:∀(m i:Nat) (xs ys:List AV) (us vs pu pv:List Value) (b:Bool),
   fJ (List.replicate m c) xs ys=some b->aW S w xs us->aW S w ys vs->pu.length=i->pv.length=i->∀w':World,
   ((forIn (m := Sem) (List.range' i m) ((none, ()) : Option Bool × Unit) (fun i _ => do
         if !(<-Op.equalIn (d+1) e (<-part e (pu++us).toArray (i*1)) (<-part e (pv++vs).toArray (i*1)))then pure (ForInStep.done (some false,()))
         else pure (ForInStep.yield (none,())))).run P w').andThen (fun r w'=>Sem.run P (match r.1 with
       | some x=>pure x
       | none=>pure true:Sem Bool) w')=.ok b w'
 | 0,i,xs,ys,us,vs,pu,pv,b,he,_,_,_,_,w'=>by cases xs <;> cases ys <;> simp[fJ]at he;subst he;simp
 | m+1,i,xs,ys,us,vs,pu,pv,b,he,hx,hy,e1,e2,w'=>by
   rw[List.replicate_succ]at he;cases xs with
   | nil=>simp[fJ]at he
   | cons x xs=>
     cases ys with
     | nil=>simp[fJ]at he
     | cons y ys=>
       simp only[fJ]at he;cases A:rM c x y with
       | none=>simp[A,KZ]at he
       | some b1=>
         cases E:fJ (List.replicate m c) xs ys with
         | none=>simp[A,E,KZ]at he
         | some b2=>
           simp[A,E,KZ]at he;simp only[aW]at hx hy;obtain⟨u,F,rfl,Z,O⟩:=hx;obtain⟨v,J,rfl,Y,M⟩:=hy;have I:=PD T U;have p1:∀w':World,(part e (pu++u::F).toArray (i*1)).run P w'=.ok u w':=fun w'=>lK (w:=w') I (by rw[Nat.mul_one,<-e1];simp)
           have X:∀w':World,(part e (pv++v::J).toArray (i*1)).run P w'=.ok v w':=fun w'=>lK (w:=w') I (by rw[Nat.mul_one,<-e2];simp)
           have q:=sK (d:=d) T A Z Y;have ih:=AI T U (d:=d) m (i+1) xs ys F J (pu++[u]) (pv++[v]) b2 E O M (by simp[e1]) (by simp[e2]) w';simp only[List.append_assoc,List.singleton_append]at ih;simp only[List.range'_succ,List.forIn_cons,Sem.run_bind,p1,X,q,Result.andThen_ok,Sem.run_ite,bind_assoc];subst he;cases b1
           . simp
           . simp only[Bool.not_true,Bool.false_eq_true,if_false,Bool.true_and,Sem.run_pure,Result.andThen_ok];exact ih
def Bv{t:TypeId}{l:List Nat}(h:sN P t=some l){xs J:List AV}{b:Bool}(Y:fJ l xs J=some b){us vs:List Value}
  (T:aW S w xs us) (X:aW S w J vs) (d:Nat) (w':World):(Op.equalIn (d+2) t (.agg us.toArray) (.agg vs.toArray)).run P w'=.ok b w':=by
 unfold sN at h;split at h
 ·rename_i fs E;split at h
  ·rename_i F;have U:P.fieldsOf t=fs:=by unfold Program.fieldsOf;rw[E]
   rw[run_equalIn_struct w' (d+1) t _ _ (by rw[U];exact E) F.1,U];simpa using pW fs.toList l xs J 0 us vs [] [] b d h Y T X rfl rfl w'
  ·simp at h
 ·rename_i n e E;split at h
  ·rename_i F;cases O:qZ P e with
   | none=>simp[O]at h
   | some c=>
    simp[O]at h;subst h;cases I:P.info? e with
    | none=>simp[I]at F
    | some i=>
     have M:i.size=1:=by simpa[I]using F.1
     have A:=AI (P:=P) (S:=S) (w:=w) O (by simp[I]) (d:=d) n 0 xs J us vs [] [] b Y T X rfl rfl w';simp only[List.nil_append]at A;rw[Op.equalIn];simp only[Sem.run_bind,run_underlying E,Result.andThen_ok,sizeOf,typeInfo,run_program,I,Sem.run_pure,M];rw[Std.Legacy.Range.forIn_eq_forIn_range'];simp only[Std.Legacy.Range.size,Nat.sub_zero,Nat.add_one_sub_one,Nat.div_one];have e:∀(r:Result (Option Bool×Unit)) (f g:Option Bool×Unit->World->Result Bool),(∀a w,f a w=g a w)->r.andThen f=r.andThen g:=fun r f g h=>by cases r <;> simp[Result.andThen,h]
     exact(e _ _ _ (fun a w=>by rcases a with⟨a,_⟩;cases a <;> rfl)).trans A
  ·simp at h
 ·simp at h
def fH(op:BinOp)(t:TypeId)(x y:Operand)(a b:Value)(h1:a≠.nilIface)(A:∀cs,a≠.agg cs)(w':World):(eqGuard op t x y a b).run P w'=.ok () w':=by cases op <;> simp only[eqGuard] <;> (try rfl) <;> cases a <;> first|rfl|(exact absurd rfl h1)|(exact absurd rfl (A _))
def N4{t:TypeId}{l:List Nat}(h:sN P t=some l):P.eqGuardType P.depth t=false:=by
 unfold sN at h;split at h
 ·split at h
  ·rename_i A;exact A.2
  ·simp at h
 ·split at h
  ·rename_i A;exact A.2
  ·simp at h
 ·simp at h
def NT{op:BinOp}{t:TypeId}{x y:AV}(h:fO P G op t x y K):
   ∃z,K z/\(gt G->∀u v,rep S w x u->rep S w y v->∀I J,tN P S H w z (do eqGuard op t I J u v;binOp op t u v)):=by
 unfold fO at h;split at h
 . rename_i k a k' b;split at h
   . rename_i X;refine⟨_,h.2,fun O u v A F I J=>?_⟩;have M:=h.1 O;simp only[rep]at A F;subst A F;refine fL iT fun w'=>?_
     simp only[Sem.run_bind,fH op t I J (.int k a) (.int k' b) (by simp) (by simp) w',Result.andThen_ok];have U:¬b<0:=by omega
     cases op <;> simp only[uS,Bool.false_eq_true]at X <;> simp[binOp,Op.shift,U,shV]
   split at h
   . rename_i hk;subst hk;have E:∀(z:Value),(∀w',(binOp op t (.int k a) (.int k b)).run P w'=.ok z w')->∀u v,rep S w (.v (.int k a)) u->rep S w (.v (.int k b)) v->∀I J,tN P S H w (.v z) (do eqGuard op t I J u v;binOp op t u v):=by
       intro z hz u v A F I J;simp only[rep]at A F;subst A F;refine fL iT fun w'=>?_
       simp only[Sem.run_bind,fH op t I J (.int k a) (.int k b) (by simp) (by simp) w',Result.andThen_ok,hz]
     cases op <;> simp only at h <;> first
       | exact h.elim
       | (refine ⟨_, h, fun _ => E _ (fun w' => ?_)⟩
          first
            | (simp[binOp,Op.intArith,Op.intCmp];done)
            | (simp[binOp];rfl))
       | exact⟨_,h.2,fun O=>E _ (fun w'=>by simp[binOp,Op.intDiv,h.1 O])⟩
   . exact h.elim
 . rename_i a b;have E:∀(z:Value),(∀w',(binOp op t (.string a) (.string b)).run P w'=.ok z w')->∀u v,rep S w (.v (.string a)) u->rep S w (.v (.string b)) v->∀I J,tN P S H w (.v z) (do eqGuard op t I J u v;binOp op t u v):=by
     intro z hz u v A F I J;simp only[rep]at A F;subst A F;refine fL iT fun w'=>?_
     simp only[Sem.run_bind,fH op t I J (.string a) (.string b) (by simp) (by simp) w',Result.andThen_ok,hz]
   cases op <;> simp only at h <;> first
     | exact h.elim
     | exact⟨_,h,fun _=>E _ (fun w'=>by simp[binOp,Op.stringOp])⟩
     | exact ⟨_, h.2, fun O => E _ (fun w' => by
         have:=h.1 O;have h2:¬((a.size+b.size:Nat):Int)>IntKind.i64.max:=by omega
         simp only[binOp,Op.stringOp];rw[if_neg h2];rfl)⟩
 . rename_i a b;split at h
   . rename_i M;have T:=OR M;cases op <;> simp only at h <;> first
       | exact h.elim
       | (refine ⟨_, h, fun _ u v A F I J => ?_⟩
          simp only[rep]at A F;subst A F;refine fL iT fun w'=>?_
          simp only[Sem.run_bind,fH _ t I J (.bool a) (.bool b) (by simp) (by simp) w',Result.andThen_ok];simp[binOp,run_equal_bool w' t a b T])
   . exact h.elim
 . rename_i xs ys;split at h
   . rename_i l hl;split at h
     . rename_i b M;cases op <;> simp only at h <;> first
         | exact h.elim
         | (refine ⟨_, h, fun _ u v A F I J => ?_⟩
            simp only[rep]at A F;obtain⟨us,rfl,Y,_⟩:=A;obtain⟨vs,rfl,Z,_⟩:=F;refine fL iT fun w'=>?_
            have q:=Bv hl M Y Z 9998 w';simp only[Sem.run_bind,run_eqGuard_agg _ _ _ _ _ _ _ (N4 hl),Result.andThen_ok]
            first
              | (rw[run_eql_struct,q];rfl)
              | (rw[run_neq_struct,q];rfl))
     . exact h.elim
   . exact h.elim
 . skip
   split at h
   . rename_i b M;split at h
     . rename_i hp;obtain⟨e,T⟩:=Q4 hp;have hq:∀u,rep S w x u->∃a,u=.pointer a/\a.isNone=b:=by
         intro u A;unfold Oo at M;split at M
         . simp only[rep]at A;exact⟨_,A,by simpa using M⟩
         . simp only[rep]at A;obtain⟨g,o,e,_⟩:=A;exact⟨_,e,by simpa using M⟩
         . simp only[rep]at A;obtain⟨_,g,n,c,_,e⟩:=A;exact⟨_,e,by simpa using M⟩
         . cases M
       have he:∀(a:Option Addr) w',(Op.equal t (.pointer a) (.pointer none)).run P w'=.ok a.isNone w':=by intro a w';have e0:Op.equal t (.pointer a) (.pointer none)=Op.equalIn (9999+1) t (.pointer a) (.pointer none):=rfl;rw[e0];unfold Op.equalIn;cases a <;> simp[run_underlying T]
       cases op <;> simp only at h <;> first
         | exact h.elim
         | (refine ⟨_, h, fun _ u v A F I J => ?_⟩
            obtain⟨a,rfl,rfl⟩:=hq u A;simp only[rep]at F;subst F;refine fL iT fun w'=>?_
            simp only[Sem.run_bind,fH _ t I J (.pointer a) (.pointer none) (by simp) (by simp) w',Result.andThen_ok];simp[binOp,he])
     . exact h.elim
   . exact⟨_,h.2,fun O=>(h.1 O).elim⟩
 . exact⟨_,h.2,fun O=>(h.1 O).elim⟩
end
end Go.Aw
end
section
namespace Go.Aw
open Go.RowKit
section
variable{P:Program}{S:Sg}{H:aG}{w:World}{G:Option Bool}{K:AV->Prop}
def fN{n:Nat}:∀{l:List (List AV)},cA n l↔∀cs∈l,cs.length=n
 | []=>by simp[cA]
 | x::r=>by simp[cA,fN (l:=r)]
def yU{α:Type}{n:Nat}{f:α->List AV}(h:∀x,(f x).length=n)(l:List α):cA n (l.map f):=fN.2 fun cs A=>by obtain⟨x,_,rfl⟩:=List.mem_map.1 A;exact h x
def VA{b:Bool}{u:Value}(h:rep S w (.v (.bool b)) u):u=.bool b:=by simpa only[rep]using h
def qU{c:Bool}{x y:AV}{u v:Value}(E:c=true->rep S w x u)(A:c=false->rep S w y v):rep S w (uO c x y) (if c then u else v):=by
 unfold uO;split
 ·cases c
  ·have:=A rfl;simp only[rep]at this |-;subst this;simp
  ·have:=E rfl;simp only[rep]at this |-;subst this;simp
 ·cases c
  ·have:=A rfl;simp only[rep]at this |-;subst this;simp
  ·have:=E rfl;simp only[rep]at this |-;subst this;simp
 ·cases c
  ·have:=A rfl;simp only[rep]at this |-;subst this;simp
  ·have:=E rfl;simp only[rep]at this |-;subst this;simp
 ·cases c
  ·simpa using A rfl
  ·simpa using E rfl
def LG{c:Bool}{x y:AV}(h:xX G c x y K):
  ∃z,K z/\(gt G->∀u v,rep S w x u->rep S w y v->rep S w z (if c then u else v)):=by
 unfold xX at h;split at h
 ·refine⟨_,h.2.2,fun I u v E A=>qU (fun F=>?_) (fun F=>?_)⟩
  ·simp only[rep]at E;exact E.1 (h.1 I F)
  ·simp only[rep]at A;exact A.1 (h.2.1 I F)
 ·refine⟨_,h.2,fun I u v E A=>qU (fun F=>?_) (fun _=>A)⟩;simp only[rep]at E;exact E.1 (h.1 I F)
 ·refine⟨_,h.2,fun I u v E A=>qU (fun _=>E) (fun F=>?_)⟩;simp only[rep]at A;exact A.1 (h.1 I F)
 ·exact⟨_,h,fun _ u v E A=>qU (fun _=>E) (fun _=>A)⟩
def E6{v:Value}(h:v.oneCell'=true):v.cells=#[v]:=by cases v <;> first|rfl|simp[Value.oneCell']at h
def tA{x:AV}{K:List AV->Prop}(h:kM x K):∃cs,K cs/\∀u,rep S w x u->∃l:List Value,u.cells=l.toArray/\aW S w cs l/\(∀v∈l,v.oneCell'=true):=by
 have E:∀(x:AV) (u:Value),rep S w x u->u.oneCell'=true->∃l:List Value,u.cells=l.toArray/\aW S w [x] l/\(∀v∈l,v.oneCell'=true):=fun x u A h1=>⟨[u],E6 h1,by simp only[aW];exact⟨u,[],rfl,A,rfl⟩,by simpa using h1⟩
 unfold kM at h;split at h
 ·refine⟨_,h,fun u A=>?_⟩;simp only[rep]at A;obtain⟨l,rfl,h1,F⟩:=A;exact⟨l,rfl,h1,F⟩
 ·refine⟨_,h.2,fun u A=>E _ u A ?_⟩;simp only[rep]at A;subst A;exact h.1
 ·refine⟨_,h,fun u A=>E _ u A ?_⟩;simp only[rep]at A;obtain⟨_,_,_,rfl,_⟩:=A;rfl
 ·refine⟨_,h,fun u A=>E _ u A ?_⟩;simp only[rep]at A;obtain⟨_,_,rfl,_⟩:=A;rfl
 ·refine⟨_,h,fun u A=>E _ u A ?_⟩;simp only[rep]at A;obtain⟨_,_,_,_,_,rfl⟩:=A;rfl
 ·refine⟨_,h,fun u A=>E _ u A ?_⟩;simp only[rep]at A;obtain⟨_,_,_,_,_,rfl⟩:=A;rfl
 ·exact h.elim
def BC(v:Value):rep S w (nC v) v:=by
 unfold nC;split
 ·unfold rep;exact⟨none,0,0,rfl,rfl,Nat.le_refl _,Nat.zero_le _,.inl rfl⟩
 ·exact iT
def jY:∀(l:List Value),aW S w (l.map nC) l
 | []=>by simp[aW]
 | v::r=>by simp only[List.map_cons,aW];exact⟨v,r,rfl,BC v,jY r⟩
def Be:∀(l:List Value) (i:Nat) (A:Array Value) (o:Nat),o+i+l.length<=A.size ->
  ((l.zipIdx i).foldl (fun cs (p:Value×Nat)=>cs.setIfInBounds (o+p.2) p.1) A).toList=A.toList.take (o+i)++l++A.toList.drop (o+i+l.length)
 | [],i,A,o,h=>by simp
 | v::r,i,A,o,h=>by
  simp only[List.zipIdx_cons,List.foldl_cons,List.length_cons]at h |-;rw[Be r (i+1) _ o (by simp;omega)];have F:(A.setIfInBounds (o+i) v).toList=A.toList.set (o+i) v:=by simp
  rw[F,show o+(i+1)=o+i+1 by omega,List.take_set,List.drop_set_of_lt (by omega)];have E:o+i<A.toList.length:=by simp;omega
  have I:(List.take (o+i+1) A.toList).set (o+i) v=List.take (o+i) A.toList++[v]:=by
   rw[List.take_succ_eq_append_getElem E,List.set_append_right _ _ (by simp;omega)];have:(List.take (o+i) A.toList).length=o+i:=by rw[List.length_take];omega
   rw[this,Nat.sub_self];rfl
  rw[I];simp only[List.append_assoc,List.singleton_append,List.cons_append,List.nil_append];rw[show o+i+1+r.length=o+i+(r.length+1)by omega]
def vE{places:List (Nat×Nat)}{place:Nat->Option (Nat×Nat)}(T:∀i Y,places[i]?=some Y->place i=some Y):∀(E:List (Nat×List AV)) (vs:List (Nat×Value)) (cs:List AV) (A:Array Value) (cs':List AV),
  nR places cs E=some cs'->aW S w cs A.toList->(∀v∈A.toList,v.oneCell'=true) ->
  E.length=vs.length->(∀(j i:Nat) (c:List AV),E[j]?=some (i,c)->∃(v:Value) (l:List Value),vs[j]?=some (i,v)/\v.cells=List.toArray l/\aW S w c l/\∀u∈l,u.oneCell'=true) ->
  ∃U,Instr.fill place A vs=some U/\aW S w cs' U.toList/\(∀v∈U.toList,v.oneCell'=true)
 | [],vs,cs,A,cs',F,hr,h1,hl,_=>by simp only[nR]at F;injection F with F;subst F;have:vs=[]:=List.eq_nil_of_length_eq_zero (by simpa using hl.symm);subst this;exact⟨A,rfl,hr,h1⟩
 | (i,c)::rest,vs,cs,A,cs',F,hr,h1,hl,hv=>by
  obtain⟨v,l,e1,e2,e3,e4⟩:=hv 0 i c (by simp);cases vs with
  | nil=>simp at e1
  | cons q vs=>
   simp at e1;subst e1;simp only[nR]at F;cases Z:places[i]? with
   | none=>simp[Z]at F
   | some Y=>
    obtain⟨off,n⟩:=Y;simp only[Z]at F;split at F
    ·rename_i hc;have M:l.length=n:=by rw[<-hc.1];exact eZ _ _ e3
     have hA:A.toList.length=cs.length:=eZ _ _ hr;have X:A.size=cs.length:=by simpa using hA
     have hz:=Be l 0 A off (by rw[M,X];have:=hc.2;omega);simp only[Nat.add_zero]at hz;have I:aW S w (cs.take off++c++cs.drop (off+n)) (A.toList.take off++l++A.toList.drop (off+l.length)):=by rw[M];exact cJ _ _ _ _ (cJ _ _ _ _ (oO _ _ _ hr) e3) (oL _ _ _ hr)
     have O:∀u∈A.toList.take off++l++A.toList.drop (off+l.length),u.oneCell'=true:=by
      intro u J;simp only[List.mem_append]at J;rcases J with(J|J)|J
      ·exact h1 u (List.mem_of_mem_take J)
      ·exact e4 u J
      ·exact h1 u (List.mem_of_mem_drop J)
     rw[<-hz]at I O;obtain⟨U,f1,f2,f3⟩:=vE T rest vs _ _ cs' F I O (by simpa using hl) (fun j i c hj=>by simpa using hv (j+1) i c (by simpa using hj));refine⟨U,?_,f2,f3⟩;simp only[Instr.fill,T i _ Z,e2,List.size_toArray,M];rw[if_neg (by have:=hc.2;simp[X];omega)];rw[<-f1]
     congr 1
     rw[<-Array.foldl_toList];simp
    ·simp at F
def lB{t:TypeId}{z:List AV}(h:cM P t=some z):∃i v,P.info? t=some i/\i.zero=some v/\z=v.cells.toList.map nC/\v.cells.size=i.size/\i.size≠0/\(∀u∈v.cells.toList,u.oneCell'=true):=by
 unfold cM at h;cases E:P.info? t with
 | none=>simp[E]at h
 | some i=>
  cases F:i.zero with
  | none=>simp[E,F]at h
  | some v=>
   simp only[E,F]at h;split at h
   ·rename_i A;injection h with h;exact⟨i,v,rfl,F,h.symm,A.1,A.2.1,fun u I=>List.all_eq_true.1 A.2.2 u I⟩
   ·simp at h
def aS{x:AV}{k:AV->Prop}(h:bK G x k):∃y,k y/\(gt G->∀u,rep S w x u->rep S w y u):=by
 unfold bK at h;split at h
 ·refine⟨_,h.2,fun E u A=>?_⟩;simp only[rep]at A;refine A.1 ?_;have:=h.1;cases G with
  | none=>exact this
  | some b=>exact this E
 ·exact⟨_,h,fun _ u A=>A⟩
def QN{op:UnOp}{x:AV}(h:aun op x K):∃z,K z/\∀u,rep S w x u->tN P S H w z (Op.unary op u):=by
 unfold aun at h;split at h
 ·refine⟨_,h,fun u A=>?_⟩;simp only[rep]at A;subst A;exact fL iT fun w'=>by simp[Op.unary]
 ·refine⟨_,h,fun u A=>?_⟩;simp only[rep]at A;subst A;exact fL iT fun w'=>by simp[Op.unary,Op.intArith]
 ·exact h.elim
def G7{t:TypeId}{k:IntKind}(h:DS P t=some k):P.underlying t=some (.int k):=by
 unfold DS at h;split at h
 ·rename_i A;injection h with h;subst h;exact A
 ·simp at h
def Js{t:TypeId}(h:NP P t=true):∃e,P.underlying t=some (.slice e)/\P.underlying e=some (.int .u8):=by
 unfold NP at h;split at h
 ·rename_i e E;split at h
  ·rename_i A;exact⟨e,E,A⟩
  ·simp at h
 ·simp at h
def D9:∀(es:List (List AV)) (ns:List Int) (o:Nat) {b sz:Nat},vY es=some ns->fK S w b sz o es->0<sz->ns.length=es.length/\∀j n,ns[j]?=some n->w.cell? ⟨b,o+j,none⟩=some (.int .u8 n)
 | [],ns,o,b,sz,h,_,_=>by simp only[vY]at h;injection h with h;subst h;simp
 | es::r,ns,o,b,sz,h,he,hs=>by
  unfold vY at h;split at h
  ·rename_i e;simp at e
  ·rename_i n r' e;injection e with X M;subst X M;cases E:vY r with
   | none=>simp[E]at h
   | some ns'=>
    simp[E]at h;subst h;simp only[fK,cE]at he;obtain⟨h1,⟨⟨u,J,_,I⟩,_⟩,U⟩:=he;simp only[rep]at I;subst I;have F:sz=1:=by simpa using h1.symm
    subst F;obtain⟨O,T⟩:=D9 r ns' (o+1) E U hs;refine⟨by simp[O],fun j m A=>?_⟩;cases j with
    | zero=>simp at A;subst A;simpa using J
    | succ j=>rw[show o+(j+1)=o+1+j by omega];exact T j m (by simpa using A)
  ·simp at h
def KJ{src dst:TypeId}{x:AV}(h:AR P src dst x K):∃z,K z/\∀u,rep S w x u->tN P S H w z (convert src dst u):=by
 unfold AR at h;split at h
 ·split at h
  ·rename_i k k' hk U;refine⟨_,h,fun u I=>?_⟩;simp only[rep]at I;subst I;refine fL iT fun w'=>?_
   simp[convert,run_underlying (G7 hk),run_underlying (G7 U),Conv.intToInt]
  ·exact h.elim
 ·split at h
  ·rename_i O;refine⟨_,h,fun u I=>?_⟩;simp only[rep]at I;subst I;refine fL iT fun w'=>?_
   simp[convert,run_underlying (eO O.1),run_underlying (eO O.2)]
  ·exact h.elim
 ·rename_i es;split at h
  ·rename_i O;split at h
   ·rename_i ns J;refine⟨_,h,fun u I=>?_⟩;obtain⟨e,he,M⟩:=Js O.1;have hd:=eO O.2;simp only[rep]at I;obtain⟨ad,n,c,rfl,h1,_,_,A⟩:=I;refine⟨_,iT,fun w' ha=>?_⟩;have E:es=[]->ns=[]:=fun e=>by subst e;simp[vY]at J;exact J
    cases ad with
    | none=>
     have:es=[]:=by rcases A with A|⟨b,o,sz,A,_⟩;exact A;simp at A
     rw[run_convert_bytes_nil w' src e he M n c dst hd,E this];rfl
    | some a=>
     have F:(loadCells a n).run P w'=.ok (ns.map (Value.int .u8)).toArray w':=by
      rcases A with A|⟨b,o,sz,A,hb,Y,T⟩
      ·have X:n=0:=by rw[<-h1,A];rfl
       rw[X,E A];simp[loadCells,loadCellsFrom]
      ·injection A with A;subst A;obtain⟨i1,i2⟩:=D9 es ns o J T Y;have X:n=(ns.map (Value.int .u8)).length:=by rw[List.length_map,i1,h1]
       rw[X];refine run_loadCells_list w' _ _ fun j v Z=>?_
       rw[Addr.add_lit];simp at Z;obtain⟨m,hm,rfl⟩:=Z;exact ha.cell hb (i2 j m hm)
     rw[run_convert_bytes_string w' src dst e _ n c he M hd,run_bytesToString w' a n c ns F,foldl_push_bytes]
     congr 3
     simp[ByteArray.empty,ByteArray.emptyWithCapacity];rfl
   ·exact h.elim
  ·exact h.elim
 ·exact h.elim
def Bg{t:TypeId}{e sz A:Nat}(J:bN P t=some (e,sz,A)):P.underlying t=some (.slice (P.elem t))/\∀w:World,(sizeOf (P.elem t)).run P w=.ok sz w:=by
 obtain⟨i,z,F,I,E,_⟩:=eN J;have:P.elem t=e:=by unfold Program.elem;rw[F]
 rw[this];exact⟨F,fun w=>by simp[sizeOf,typeInfo,I,E]⟩
def BZ{t:TypeId}{x a b:AV}(h:BX P G t x a b K):
  ∃z,K z/\(gt G->∀(u A E:Value),rep S w x u->rep S w a A->rep S w b E->tN P S H w z (Instr.sliceAt t u none (some A) (some E))):=by
 unfold BX at h;split at h
 ·rename_i es ka a kb b;split at h
  ·rename_i e X;refine⟨_,h.2,fun Z u A E T h1 J=>?_⟩;obtain⟨U,Y⟩:=h.1 Z;simp only[rep]at T h1 J;subst h1 J U Y;obtain⟨ad,n,c,rfl,rfl,hc,hm,O⟩:=T;obtain⟨F,M⟩:=Bg (P:=P) (t:=t) (by rw[X]);refine⟨.slice ad es.length es.length,?_,fun w' _=>?_⟩
   ·simp only[rep];exact⟨ad,_,rfl,rfl,by omega,O⟩
   ·rw[run_sliceAt_slice w' t _ _ _ _ F];have I:(es.length:Int)<=(c:Int):=by exact_mod_cast hc
    rcases O with rfl|⟨bb,o,sz,rfl,_⟩
    ·simp[Instr.slice,run_underlying F,Instr.sliceBounds,Instr.sliceBound,asIntOf,M]
    ·simp[Instr.slice,run_underlying F,Instr.sliceBounds,Instr.sliceBound,asIntOf,M,I,Addr.add];intro aa;omega
  ·exact h.elim
 ·exact h.elim
def DP{es:List (List AV)}{ad:Option Addr}{n c sz a b:Nat}(Y:rep S w (.sl es) (.slice ad n c))(I:cA sz es)(aa:a<=b)(hb:b<=es.length):
  rep S w (.sl ((es.take b).drop a)) (sliced ad a b c sz):=by
 simp only[rep]at Y |-;obtain⟨ac,n',c',e,h1,h2,h3,U⟩:=Y;injection e with X J e3;subst X J e3;refine⟨_,_,_,rfl,by simp;omega,by omega,by omega,?_⟩;by_cases A:(es.take b).drop a=[]
 ·exact .inl A
 ·refine .inr ?_;rcases U with U|⟨bl,o,F,rfl,M,Z,E⟩
  ·subst U;simp at A
  ·have O : 0 < es.length := by
    rcases Nat.eq_zero_or_pos es.length with h0|h0
    ·have:=List.eq_nil_of_length_eq_zero h0;subst this;simp at A
    ·exact h0
   have T:F=sz:=by have X:=(oK es o 0 E O).1;have J:=fN.1 I (es.getD 0 []) (by simp only[List.getD,List.getElem?_eq_getElem O,Option.getD_some];exact List.getElem_mem O);rw[<-X,J]
   subst T;have ab:a<b:=by
    rcases Nat.lt_or_ge a b with h|h
    ·exact h
    ·exact absurd (List.drop_eq_nil_of_le (by simp;omega)) A
   refine⟨bl,o+a*F,F,?_,M,Z,?_⟩
   ·split
    ·omega
    ·simp[Addr.add_lit]
   ·exact zD _ o a (uC es o b E)
def Ia{t:TypeId}{x:AV}{lo hi:Option AV}(h:kL P G t x lo hi K):
  ∃z,K z/\(gt G->∀(u:Value) (U X:Option Value),rep S w x u->(∀y,lo=some y->∃v,U=some v/\rep S w y v)->(lo=none->U=none)->(∀y,hi=some y->∃v,X=some v/\rep S w y v)->(hi=none->X=none) ->
   tN P S H w z (Instr.sliceAt t u U X none)):=by
 unfold kL at h;split at h
 ·rename_i es Y a kb b;split at h
  ·rename_i e sz Z he;refine⟨_,h.2,fun I u U X F J _ O _=>?_⟩;obtain⟨⟨h0,h1,h2⟩,h3⟩:=h.1 I;obtain⟨v,rfl,E⟩:=J _ rfl;obtain⟨v',rfl,M⟩:=O _ rfl;simp only[rep]at E M;subst E M;have T:=F;simp only[rep]at T;obtain⟨ad,n,c,rfl,e1,e2,_⟩:=T;obtain⟨A,hz⟩:=Bg he;have:=DP (a:=a.toNat) (b:=b.toNat) F h3 (by omega) (by omega);refine⟨_,this,fun w' _=>?_⟩;rw[run_sliceAt_slice w' t _ _ _ _ A,run_slice_lh w' t ad n c A Y kb a b h0 h1 (by omega),hz];rfl
  ·exact h.elim
 ·rename_i es Y a;split at h
  ·rename_i e sz Z he;refine⟨_,h.2,fun I u U X F J _ _ O=>?_⟩;obtain⟨⟨h0,h1⟩,h3⟩:=h.1 I;obtain⟨v,rfl,E⟩:=J _ rfl;have:=O rfl;subst this;simp only[rep]at E;subst E;have T:=F;simp only[rep]at T;obtain⟨ad,n,c,rfl,e1,e2,_⟩:=T;obtain⟨A,hz⟩:=Bg he;have:=DP (a:=a.toNat) (b:=es.length) F h3 (by omega) (by omega);rw[List.take_length,e1]at this;refine⟨_,this,fun w' _=>?_⟩;rw[run_sliceAt_slice w' t _ _ _ _ A,run_slice_l w' t ad n c A Y a h0 (by omega),hz];rfl
  ·exact h.elim
 ·rename_i es kb b;split at h
  ·rename_i e he;refine⟨_,h.2,fun I u U X F _ J O _=>?_⟩;obtain⟨h0,h1⟩:=h.1 I;obtain⟨v,rfl,E⟩:=O _ rfl;have:=J rfl;subst this;simp only[rep]at E;subst E;obtain⟨A,hz⟩:=Bg he;simp only[rep]at F;obtain⟨ad,n,c,rfl,e1,e2,e3,e4⟩:=F;refine⟨sliced ad 0 b.toNat c e.2.1,?_,fun w' _=>?_⟩
   ·simp only[rep];refine⟨ad,b.toNat,c,?_,by simp;omega,by omega,e3,?_⟩
    ·simp only[sliced,Nat.sub_zero]
     congr 1
     split
     ·rfl
     ·cases ad <;> simp[Addr.add_zero']
    ·rcases e4 with e4|⟨bl,o,ae,rfl,ac,ab,aa⟩
     ·left;rw[e4];simp
     ·exact .inr ⟨bl,o,ae,rfl,ac,ab,uC es o _ aa⟩
   ·rw[run_sliceAt_slice w' t _ _ _ _ A,run_slice_h w' t ad n c A kb b h0 (by omega),hz];rfl
  ·exact h.elim
 ·rename_i s Y a kb b;split at h
  ·rename_i A;refine⟨_,h.2,fun I u U X F J _ O _=>?_⟩;obtain⟨h0,h1,h2⟩:=h.1 I;obtain⟨v,rfl,E⟩:=J _ rfl;obtain⟨v',rfl,M⟩:=O _ rfl;simp only[rep]at F E M;subst F E M;refine fL iT fun w'=>?_
   rw[run_sliceAt_string w' t _ _ _ _ (eO A),run_slice_string w' t s Y kb a b (eO A) h0 h1 h2]
  ·exact h.elim
 ·rename_i s Y a;split at h
  ·rename_i A;refine⟨_,h.2,fun I u U X F J _ _ O=>?_⟩;obtain⟨h0,h1⟩:=h.1 I;obtain⟨v,rfl,E⟩:=J _ rfl;have:=O rfl;subst this;simp only[rep]at F E;subst F E;refine fL iT fun w'=>?_
   rw[run_sliceAt_string w' t _ _ _ _ (eO A),run_slice_string_l w' t s (eO A) Y a h0 h1]
  ·exact h.elim
 ·rename_i s kb b;split at h
  ·rename_i A;refine⟨_,h.2,fun I u U X F _ J O _=>?_⟩;obtain⟨h0,h1⟩:=h.1 I;obtain⟨v,rfl,E⟩:=O _ rfl;have:=J rfl;subst this;simp only[rep]at F E;subst F E;refine fL iT fun w'=>?_
   rw[run_sliceAt_string w' t _ _ _ _ (eO A),run_slice_string_h w' t s (eO A) kb b h0 h1]
  ·exact h.elim
 ·exact h.elim
def L6{k:Nat}{r:Row}(Z:vP S w H)(hk:H k=some r){a b c:Nat}{ad:Option Addr}{n:Nat}(M:S.loc k=.slice ad n c)(O:a<=b)(hb:b<=r.es.length):n=r.es.length/\n<=c/\rep S w (.oz k a b) (sliced ad a b c r.sz):=by
 have T:=Z k r hk;obtain⟨xs,X,_,_⟩:=T.sl M;have A:(ad=none/\n=0/\c=0/\r.es.length=0)\/∃g,ad=some ⟨g,0,none⟩/\n=r.es.length/\n<=c:=by
  rcases X.2 with⟨J,I⟩|⟨g,cap,cur,J,_,_,U,_⟩
  ·rw[M]at J;injection J with h1 E F;exact .inl ⟨h1,E,F,I⟩
  ·rw[M]at J;injection J with h1 E F;subst F;exact .inr ⟨g,h1,E,by omega⟩
 have I:n=r.es.length/\n<=c:=by rcases A with⟨_,h1,E,F⟩|⟨g,_,h1,E⟩ <;> omega
 refine⟨I.1,I.2,?_⟩;simp only[rep,sliced];refine⟨T.lt,ad,n,c,_,_,M,rfl,O,by omega,fun Y=>?_,fun ha=>?_,I.2,rfl⟩
 ·rcases A with⟨_,h1,E,F⟩|⟨g,h0,h1,E⟩
  ·omega
  ·subst h0;refine⟨g,rfl,?_⟩;rw[if_neg (by omega)];simp[Addr.add_lit,T.sz]
 ·subst ha;rcases A with⟨h0,_,_,_⟩|⟨g,h0,_,_⟩
  ·subst h0;simp
  ·subst h0;simp[Addr.add_lit]
def oM{H':aG}{t:TypeId}{x:AV}{lo hi:Option AV}(hH:vP S w H)(h:asl P G H t x lo hi K):
  ∃z,K z/\(gt G->∀(u:Value) (X Z:Option Value),rep S w x u->(∀y,lo=some y->∃v,X=some v/\rep S w y v)->(lo=none->X=none)->(∀y,hi=some y->∃v,Z=some v/\rep S w y v)->(hi=none->Z=none) ->
   tN P S H' w z (Instr.sliceAt t u X Z none)):=by
 unfold asl at h;split at h
 ·rename_i k;split at h
  ·rename_i r e sz O hk he;obtain⟨I,hz⟩:=Bg he;split at h
   ·rename_i ka a kb b;refine⟨_,h.2,fun T u X Z F U _ Y _=>?_⟩;obtain⟨⟨h0,h1,h2⟩,M⟩:=h.1 T;obtain⟨v,rfl,E⟩:=U _ rfl;obtain⟨v',rfl,aa⟩:=Y _ rfl;simp only[rep]at E aa F;subst E aa;obtain⟨_,rfl,ad,n,c,A⟩:=F;obtain⟨q1,q2,q3⟩:=L6 (a:=a.toNat) (b:=b.toNat) hH hk A (by omega) (by omega);rw[A];refine⟨_,q3,fun w' _=>?_⟩;rw[run_sliceAt_slice w' t _ _ _ _ I,run_slice_lh w' t ad n c I ka kb a b h0 h1 (by omega),hz,M];rfl
   ·rename_i ka a;refine⟨_,h.2,fun T u X Z F U _ _ Y=>?_⟩;obtain⟨⟨h0,h1⟩,M⟩:=h.1 T;obtain⟨v,rfl,E⟩:=U _ rfl;have:=Y rfl;subst this;simp only[rep]at E F;subst E;obtain⟨_,rfl,ad,n,c,A⟩:=F;obtain⟨q1,q2,q3⟩:=L6 (a:=a.toNat) (b:=r.es.length) hH hk A (by omega) (by omega);rw[A];refine⟨_,q3,fun w' _=>?_⟩;rw[run_sliceAt_slice w' t _ _ _ _ I,run_slice_l w' t ad n c I ka a h0 (by omega),hz,M,q1];rfl
   ·rename_i kb b;refine⟨_,h.2,fun T u X Z F _ U Y _=>?_⟩;obtain⟨⟨h0,h1⟩,M⟩:=h.1 T;obtain⟨v,rfl,E⟩:=Y _ rfl;have:=U rfl;subst this;simp only[rep]at E F;subst E;obtain⟨_,rfl,ad,n,c,A⟩:=F;obtain⟨q1,q2,q3⟩:=L6 (a:=0) (b:=b.toNat) hH hk A (by omega) (by omega);rw[A];refine⟨_,q3,fun w' _=>?_⟩;rw[run_sliceAt_slice w' t _ _ _ _ I,run_slice_h w' t ad n c I kb b h0 (by omega),hz,M];rfl
   ·exact h.elim
  ·exact h.elim
 ·rename_i k a b;split at h
  ·rename_i r e sz O hk he;obtain⟨I,hz⟩:=Bg he;split at h
   ·rename_i kl l;refine⟨_,h.2,fun T u X Z F U _ _ Y=>?_⟩;obtain⟨⟨h0,h1⟩,M⟩:=h.1 T;obtain⟨v,rfl,E⟩:=U _ rfl;have:=Y rfl;subst this;simp only[rep]at E F;subst E;obtain⟨af,ad,n,c,ab,cc,A,rfl,ak,ah,J,ae,ac,rfl⟩:=F;have hR:=hH k r hk;refine⟨sliced ab l.toNat (b-a) (c-a) r.sz,?_,fun w' _=>?_⟩
    ·simp only[rep,sliced];refine⟨af,ad,n,c,_,_,A,congrArg (fun m=>Value.slice _ m _) (by omega),by omega,ah,fun hc=>?_,fun ha=>?_,ac,by omega⟩
     ·obtain⟨g,rfl,rfl⟩:=J (by omega);refine⟨g,rfl,?_⟩;rw[if_neg (by omega)];simp[Addr.add_lit,hR.sz,Nat.add_mul]
     ·have ai:a=0:=by omega
      have ag:l.toNat=0:=by omega
      obtain⟨e1,e2⟩:=ae ai;subst e1;refine⟨?_,by omega⟩;rw[ag];split
      ·rfl
      ·rename_i aj;obtain⟨g,e1,e2⟩:=J (by omega);rw[e1];simp[Addr.add_lit]
    ·rw[run_sliceAt_slice w' t _ _ _ _ I,run_slice_l w' t ab (b-a) (c-a) I kl l h0 (by omega),hz,M];rfl
   ·exact h.elim
  ·exact h.elim
 ·exact Ia h
def HH{t:TypeId}{x i:AV}(h:uG P G t x i K):
  ∃z,K z/\(gt G->∀u v,rep S w x u->rep S w i v->tN P S H w z (Instr.index t u v)):=by
 unfold uG at h;split at h
 ·rename_i s k n;split at h
  ·rename_i Z;refine⟨_,h.2,fun F u v I A=>?_⟩;obtain⟨h0,h1⟩:=h.1 F;simp only[rep]at I A;subst I A;refine fL iT fun w'=>?_
   rw[run_index_string w' t s k n (eO Z),dif_pos ⟨h0,h1⟩];have M:n.toNat<s.data.size:=by have:s.size=s.data.size:=rfl;omega
   congr 4
   rw[Array.getD,dif_pos M];rfl
  ·exact h.elim
 ·rename_i cs k n;split at h
  ·rename_i m s l ha;obtain⟨e,U,I,X,rfl,_,hl⟩:=GF ha;obtain⟨z,hz,hd⟩:=Ck (S:=S) (H:=H) (w:=w) hl h.2;refine⟨z,hz,fun F u v O A=>?_⟩;obtain⟨h0,h1⟩:=h.1 F;obtain⟨cs',rfl,J⟩:=hd F u O;simp only[rep]at A;subst A;obtain⟨r,T,E⟩:=J;refine⟨r,T,fun w' Y=>?_⟩;have:=E w' Y;simp[Instr.index,asIntOf,run_underlying I,h0,h1,sizeOf,typeInfo,X];simpa using this
  ·exact h.elim
 ·exact h.elim
def opB(n:Nat):Operand->Bool
 | .tmp t=>decide (t<n)
 | _=>true
def FR(S:Sg)(w:World)(ρ:Env)(a:Act):Prop:=∀t,t<a.tmps.size->rep S w (ρ t) (a.tmps.getD t undef)
def cC{ρ:Env}{a:Act}(E:FR S w ρ a){x:Operand}(A:opB a.tmps.size x=true):rep S w (aev ρ x) (a.eval x):=by
 cases x with
 | tmp t=>simp only[opB,decide_eq_true_eq]at A;exact E t A
 | const v=>exact BC v
 | global g=>trivial
 | func f=>exact iT
def Oh{ρ:Env}{a:Act}(A:FR S w ρ a){x:Operand}(E:opB a.tmps.size x=true):rep S w (HC ρ x) (a.eval x):=by
 cases x with
 | const v=>exact iT
 | tmp t=>exact cC A E
 | global g=>exact cC A E
 | func f=>exact cC A E
def Cd{ρ:Env}{a:Act}(A:FR S w ρ a):∀(l:List Operand),(∀x∈l,opB a.tmps.size x=true)->aW S w (l.map (HC ρ)) (l.map a.eval)
 | [],_=>rfl
 | x::l,h=>by simp only[List.map_cons,aW];exact⟨_,_,rfl,Oh A (h x (by simp)),Cd A l fun y E=>h y (by simp[E])⟩
def lS{ρ:Env}{a:Act}(J:FR S w ρ a):∀(l:List (Nat×Operand)) {K:List (Nat×List AV)->Prop},(∀p∈l,opB a.tmps.size p.2=true)->mM G ρ l K ->
  ∃A,K A/\(gt G->A.length=(l.map fun p=>(p.1,a.eval p.2)).length /\
   ∀(j i:Nat) (c:List AV),A[j]?=some (i,c)->∃(v:Value) (l':List Value),(l.map fun p=>(p.1,a.eval p.2))[j]?=some (i,v)/\v.cells=List.toArray l'/\aW S w c l'/\∀u∈l',u.oneCell'=true)
 | [],K,_,h=>⟨[],h,fun _=>⟨rfl,by simp⟩⟩
 | (i,x)::rest,K,hb,h=>by
  simp only[mM]at h;obtain⟨y,h,Y⟩:=aS (S:=S) (w:=w) h;obtain⟨cs,h,I⟩:=tA (S:=S) (w:=w) h;obtain⟨A,U,F⟩:=lS J rest (fun p hp=>hb p (by simp[hp])) h;refine⟨_,U,fun M=>?_⟩;obtain⟨e1,T⟩:=F M;refine⟨by simpa using e1,fun j k c E=>?_⟩;cases j with
  | zero=>simp at E;obtain⟨rfl,rfl⟩:=E;obtain⟨l',X,O,Z⟩:=I _ (Y M _ (cC J (hb (i,x) (by simp))));exact⟨_,l',by simp,X,O,Z⟩
  | succ j=>simpa using T j k c (by simpa using E)
def rB{t:TypeId}{i:TypeInfo}{J:Value}{z:List AV}{X:List (Nat×Nat)}(hi:P.info? t=some i)(M:i.zero=some J)(h1:∀u∈J.cells.toList,u.oneCell'=true)(hr:aW S w z J.cells.toList)(I:cR P t=some X){A:List (Nat×List AV)}{vs:List (Nat×Value)}{cs:List AV}
  (hf:nR X z A=some cs) (hl:A.length=vs.length)
  (hv:∀(j i:Nat) (c:List AV),A[j]?=some (i,c)->∃(v:Value) (l:List Value),vs[j]?=some (i,v)/\v.cells=List.toArray l/\aW S w c l/\∀u∈l,u.oneCell'=true):
  ∃E,P.built t vs=some E/\aW S w cs E.toList/\∀v∈E.toList,v.oneCell'=true:=by
 unfold cR at I;split at I
 ·rename_i fs hu;obtain⟨E,Y,O,Z⟩:=vE (place:=fun i=>X.toArray[i]?) (fun i on h=>by simpa using h) A vs _ J.cells cs hf hr h1 hl hv;refine⟨E,?_,O,Z⟩;unfold Program.built;simp only[hi,hu,M,I];exact Y
 ·rename_i n e hu;cases F:P.info? e with
  | none=>simp[F]at I
  | some ie=>
   simp[F]at I;obtain⟨E,Y,O,Z⟩:=vE (place:=fun i=>some (i*ie.size,ie.size)) (fun i on h=>by
    rw[<-I]at h;simp only[List.getElem?_map,Option.map_eq_some_iff]at h;obtain⟨j,h,rfl⟩:=h;have U:i<n:=by
     rcases Nat.lt_or_ge i n with T|T
     ·exact T
     ·simp[List.getElem?_eq_none,T]at h
    simp[U]at h;rw[h]) A vs _ J.cells cs hf hr h1 hl hv
   refine⟨E,?_,O,Z⟩;unfold Program.built;simp only[hi,hu,M,F];exact Y
 ·simp at I
def IB{t:TypeId}{z:List AV}{I:List (Nat×Nat)}(T:cM P t=some z)(Y:cR P t=some I){A:List (Nat×List AV)}{vs:List (Nat×Value)}{cs:List AV}
  (M:nR I z A=some cs) (O:A.length=vs.length)
  (X:∀(j i:Nat) (c:List AV),A[j]?=some (i,c)->∃(v:Value) (l:List Value),vs[j]?=some (i,v)/\v.cells=List.toArray l/\aW S w c l/\∀u∈l,u.oneCell'=true):
  ∃E,P.built t vs=some E/\aW S w cs E.toList/\∀v∈E.toList,v.oneCell'=true:=by
 obtain⟨i,J,Z,F,rfl,U,_,h1⟩:=lB T;exact rB Z F h1 (jY J.cells.toList) Y M O X
end
end Go.Aw
end
section
namespace Go.Aw
open Go.RowKit
section
variable{P:Program}{S:Sg}{H:aG}{w:World}{G:Option Bool}{K:AV->Prop}
def Rp{a b:ByteArray}(h:a.toList=b.toList):a=b:=by rw[ByteArray.toList_eq,ByteArray.toList_eq]at h;exact ByteArray.ext (Array.toList_inj.1 h)
def SP{t:TypeId}{A:TypeId×TypeId}(h:Ni P t=some A):P.underlying t=some (.map A.1 A.2):=by
 unfold Ni at h;split at h
 ·rename_i k e E;injection h with h;subst h;exact E
 ·simp at h
def Hg{t:TypeId}{z:AV}(h:FG P t=some z):∃v,(∀w':World,(zeroValue t).run P w'=.ok v w')/\∀S w,rep S w z v:=by
 unfold FG at h;split at h
 ·rename_i i F;split at h
  ·rename_i cs E;split at h
   ·rename_i A;injection h with h;subst h;refine⟨.agg cs,fun w'=>by simp[zeroValue,typeInfo,F,E],fun S w=>?_⟩;simp only[rep];refine⟨cs.toList,by simp,jY _,fun u I=>List.all_eq_true.1 A u I⟩
   ·simp at h
  ·rename_i v _ E;split at h
   ·injection h with h;subst h;exact⟨v,fun w'=>by simp[zeroValue,typeInfo,F,E],fun S w=>BC _⟩
   ·simp at h
  ·simp at h
 ·simp at h
def Gm{U:TypeId}{x y:AV}{b:Bool}(h:mZ P U x y=some b){u v:Value}(Y:rep S w x u)(X:rep S w y v):
  ∃d,P.underlying U=some d/\Instr.sameNow d u v=some b/\(b=true->u=v/\∀n,Instr.sameBits (n+1) v u=true):=by
 unfold mZ at h;split at h
 ·rename_i a c;simp only[rep]at Y X;subst Y X;split at h
  ·rename_i k T;unfold rM at h;split at h
   ·rename_i k1 a1 Z E J F;cases J;cases F;split at h
    ·rename_i O;subst O;rcases jU T with⟨_,k',A⟩|⟨h0,_⟩|⟨h0,_⟩
     ·injection h with h;subst h;refine⟨_,A,by simp[Instr.sameNow],fun I=>?_⟩;have:a1=E:=by simpa using I
      subst this;exact⟨rfl,fun n=>by simp[Instr.sameBits]⟩
     ·simp at h0
     ·simp at h0
    ·simp at h
   ·rename_i a1 E J F;cases J;cases F;rcases jU T with⟨h0,_⟩|⟨_,A⟩|⟨h0,_⟩
    ·simp at h0
    ·injection h with h;have I:(a1 == E)=b:=by rw[beq_toListBytes];exact h
     refine⟨_,A,by simp[Instr.sameNow,I],fun M=>?_⟩;have:a1=E:=Rp (by rw[M]at h;simpa using h);subst this;exact⟨rfl,fun n=>by simp[Instr.sameBits,beq_toListBytes]⟩
    ·simp at h0
   ·rename_i a1 E J F;cases J;cases F;rcases jU T with⟨h0,_⟩|⟨h0,_⟩|⟨_,A⟩
    ·simp at h0
    ·simp at h0
    ·injection h with h;subst h;refine⟨_,A,by simp[Instr.sameNow],fun I=>?_⟩;have:a1=E:=by simpa using I
     subst this;exact⟨rfl,fun n=>by simp[Instr.sameBits]⟩
   ·simp at h
  ·simp at h
 ·simp at h
def G4{U:TypeId}{x:AV}{u:Value}{d:TypeDesc}(O:P.underlying U=some d)(T:rep S w x u):∀(es:List (List AV)) (ms:List MapEntry) (i:Nat) {oi:Option Nat},iU S w i es ms->qC (mZ P U x) es i=some oi ->
  (oi=none->Instr.findNow d u ms i=some none)/\∀j,oi=some j->∃m cs,i<=j/\ms[j-i]?=some m/\es[j-i]?=some cs/\Instr.findNow d u ms i=some (some (j,m.val))/\m.key=u/\(∀n,Instr.sameBits (n+1) m.key u=true)/\m.born=j/\aW S w cs [m.key,m.val]
 | [],ms,i,oi,he,E=>by simp only[iU]at he;subst he;simp only[qC]at E;injection E with E;subst E;exact⟨fun _=>rfl,fun j h=>by simp at h⟩
 | cs::r,ms,i,oi,he,E=>by
  simp only[iU]at he;obtain⟨m,t,rfl,hb,J,ht⟩:=he;unfold qC at E;have X:rep S w (cs.getD 0 .any) m.key:=by
   cases cs with
   | nil=>simp[aW]at J
   | cons c cs=>simp only[aW]at J;obtain⟨_,_,e,h1,_⟩:=J;injection e with e1 e2;subst e1;simpa using h1
  split at E
  ·rename_i F;injection E with E;subst E;obtain⟨d',A,h1,M⟩:=Gm F T X;rw[O]at A;injection A with A;subst A;refine⟨fun h=>by simp at h,fun j I=>?_⟩;injection I with I;subst I;exact⟨m,cs,Nat.le_refl _,by simp,by simp,by simp[Instr.findNow,h1],(M rfl).1.symm,(M rfl).2,hb,J⟩
  ·rename_i F;obtain⟨d',A,h1,M⟩:=Gm F T X;rw[O]at A;injection A with A;subst A;obtain⟨Y,g2⟩:=G4 O T r t (i+1) ht E;refine⟨fun h=>by simp[Instr.findNow,h1,Y h],fun j I=>?_⟩;obtain⟨Z,cs',q1,q2,q3,q4,q5⟩:=g2 j I;have e:j-i=(j-(i+1))+1:=by omega
   exact⟨Z,cs',by omega,by rw[e];simpa using q2,by rw[e];simpa using q3,by simp[Instr.findNow,h1,q4],q5⟩
  ·simp at E
def uW:∀(i:Nat) (es:List (List AV)) (ms:List MapEntry),iU S w i es ms->ms.length=es.length
 | _,[],ms,h=>by simp only[iU]at h;simp[h]
 | i,cs::r,ms,h=>by simp only[iU]at h;obtain⟨m,t,rfl,_,_,A⟩:=h;simp[uW (i+1) r t A]
def Kz:∀(i:Nat) (es:List (List AV)) (ms:List MapEntry) (j:Nat),iU S w i es ms->j<es.length->∃m,ms[j]?=some m/\m.born=i+j/\aW S w (es.getD j []) [m.key,m.val]
 | _,[],_,_,_,h=>by simp at h
 | i,cs::r,ms,0,h,_=>by simp only[iU]at h;obtain⟨m,t,rfl,h1,A,_⟩:=h;exact⟨m,by simp,by simpa using h1,by simpa using A⟩
 | i,cs::r,ms,j+1,h,hj=>by simp only[iU]at h;obtain⟨m,t,rfl,_,_,I⟩:=h;obtain⟨F,E,J,g3⟩:=Kz (i+1) r t j I (by simpa using hj);exact⟨F,by simpa using E,by omega,by simpa using g3⟩
def AZ:∀(i:Nat) (es:List (List AV)) (ms:List MapEntry) (j:Nat) {cs:List AV} {m:MapEntry},iU S w i es ms->m.born=i+j->aW S w cs [m.key,m.val]->iU S w i (es.set j cs) (ms.set j m)
 | _,[],ms,_,_,_,h,_,_=>by simp only[iU]at h;subst h;simp[iU]
 | i,c::r,ms,0,cs,m,h,hb,hr=>by simp only[iU]at h;obtain⟨E,t,rfl,_,_,A⟩:=h;simp only[List.set_cons_zero,iU];exact⟨m,t,rfl,by simpa using hb,hr,A⟩
 | i,c::r,ms,j+1,cs,m,h,hb,hr=>by simp only[iU]at h;obtain⟨E,t,rfl,h1,F,A⟩:=h;simp only[List.set_cons_succ,iU];exact⟨E,t.set j m,rfl,h1,F,AZ (i+1) r t j A (by omega) hr⟩
def AL:∀(i:Nat) (es:List (List AV)) (ms:List MapEntry) {cs:List AV} {m:MapEntry},iU S w i es ms->m.born=i+es.length->aW S w cs [m.key,m.val]->iU S w i (es++[cs]) (ms++[m])
 | i,[],ms,cs,m,h,hb,hr=>by simp only[iU]at h;subst h;simp only[List.nil_append,iU];exact⟨m,[],rfl,by simpa using hb,hr,rfl⟩
 | i,c::r,ms,cs,m,h,hb,hr=>by simp only[iU]at h;obtain⟨E,t,rfl,h1,A,F⟩:=h;simp only[List.cons_append,iU];exact⟨E,t++[m],rfl,h1,A,AL (i+1) r t F (by simp at hb;omega) hr⟩
def wC{A:TypeId}{x:AV}(h:kR P A x=true){u:Value}(E:rep S w x u)(e:Bool)(n:Nat)(w':World):(∃d,P.underlying A=some d)/\(Instr.checkKey e (n+1) A u).run P w'=.ok () w':=by
 unfold kR at h;split at h
 all_goals first|(simp at h;done)|skip
 all_goals
  simp only[beq_iff_eq]at h;simp only[rep]at E;subst E;rcases jU h with⟨h0,k',hk'⟩|⟨h0,hk'⟩|⟨h0,hk'⟩ <;> first
   | (simp at h0;done)
   | exact⟨⟨_,hk'⟩,by unfold Instr.checkKey;simp only[Sem.run_bind,run_underlying hk',Result.andThen];rfl⟩
def Lh{t:TypeId}{A:TypeId×TypeId}{x:AV}{r:Row}{k:Nat}{u:Value}{E:Option Nat}(ht:Ni P t=some A)(M:kR P A.1 x=true)(Y:qC (mZ P A.1 x) r.es 0=some E)(U:Vb S w k r)(I:rep S w x u):
  ∃g ms,S.loc k=.map (some g)/\w.heap[g]?=some (.map (List.toArray ms) ms.length)/\iU S w 0 r.es ms/\P.underlying t=some (.map A.1 A.2)/\(∀e (w':World),(Instr.checkKey e 10000 A.1 u).run P w'=.ok () w') /\
   ((E=none/\∀w':World,(Instr.findKey A.1 u ms).run P w'=.ok none w') \/
   ∃j m cs,E=some j/\ms[j]?=some m/\r.es[j]?=some cs/\(∀w':World,(Instr.findKey A.1 u ms).run P w'=.ok (some (j,m.val)) w')/\m.key=u/\(∀n,Instr.sameBits (n+1) m.key u=true)/\m.born=j/\aW S w cs [m.key,m.val]):=by
 obtain⟨g,ms,h1,T,J,_⟩:=U;obtain⟨⟨d,F⟩,_⟩:=wC M I true 0 w;refine⟨g,ms,h1,T,J,SP ht,fun e w'=>(wC M I e 9999 w').2,?_⟩;obtain⟨f1,O⟩:=G4 F I r.es ms 0 J Y;cases E with
 | none=>exact .inl ⟨rfl,fun w'=>by simp[Instr.findKey,run_underlying F,f1 rfl]⟩
 | some j=>obtain⟨m,cs,_,Z,q3,q4,q5,q6,X,q8⟩:=O j rfl;exact .inr ⟨j,m,cs,rfl,by simpa using Z,by simpa using q3,fun w'=>by simp[Instr.findKey,run_underlying F,q4],q5,q6,X,q8⟩
def Et{cs:List AV}{a b:Value}(h:aW S w cs [a,b]):∃x y,cs=[x,y]/\rep S w x a/\rep S w y b:=by
 cases cs with
 | nil=>simp[aW]at h
 | cons x cs=>
  simp only[aW]at h;obtain⟨u,t,e,h1,A⟩:=h;injection e with F E;subst F E;cases cs with
  | nil=>simp[aW]at A
  | cons y cs=>
   simp only[aW]at A;obtain⟨u,t,e,J,I⟩:=A;injection e with F E;subst F E;cases cs with
   | nil=>exact⟨x,y,rfl,h1,J⟩
   | cons _ _=>simp[aW]at I
def Fi{t:TypeId}{x J:AV}{ok:Bool}(hH:vP S w H)(h:qK P H t x J ok K):
  ∃z,K z/\(gt G->∀u v,rep S w x u->rep S w J v->tN P S H w z (Instr.lookup t u v ok)):=by
 unfold qK CF at h;split at h
 ·rename_i j;split at h
  ·rename_i r kt Y ht;split at h
   ·rename_i oi hf;obtain⟨hp,h⟩:=h;split at h
    ·rename_i z hz;refine⟨_,h,fun _ u v hu hv=>?_⟩;simp only[rep]at hu;obtain⟨_,rfl,g0,X⟩:=hu;obtain⟨g,ms,h1,h2,h3,T,M,O⟩:=Lh ht hp hf ((hH j r Y).mp X) hv;obtain⟨U,I,F⟩:=Hg hz;have A:∀w',Agree S H w w'->w'.heap[g]?=some (.map (List.toArray ms) ms.length):=fun w' E=>(E.own j r Y g (by rw[h1];rfl)).trans h2
     rcases O with⟨rfl,O⟩|⟨i,m,cs,rfl,q1,q2,q3,q4,q5,q6,q7⟩
     ·cases ok with
      | false=>refine⟨U,F S w,fun w' E=>?_⟩;simp[Instr.lookup,run_underlying T,h1,MapKept.run_getObj_map (A w' E),M,O,I,Em]
      | true=>
       refine⟨.tuple #[U,.bool false],?_,fun w' E=>?_⟩
       ·simp only[Em,if_true,rep,aW];exact⟨[U,.bool false],by simp,_,_,rfl,F S w,_,_,rfl,rfl,rfl⟩
       ·simp[Instr.lookup,run_underlying T,h1,MapKept.run_getObj_map (A w' E),M,O,I,Em]
     ·obtain⟨xk,xv,rfl,r1,r2⟩:=Et q7;have Z:(r.es.getD i []).getD 1 .any=xv:=by simp[List.getD,q2]
      cases ok with
      | false=>refine⟨m.val,by simp only[Em,Z];exact r2,fun w' E=>?_⟩;simp[Instr.lookup,run_underlying T,h1,MapKept.run_getObj_map (A w' E),M,q3]
      | true=>
       refine⟨.tuple #[m.val,.bool true],?_,fun w' E=>?_⟩
       ·simp only[Em,if_true,Z,rep,aW];exact⟨[m.val,.bool true],by simp,_,_,rfl,r2,_,_,rfl,rfl,rfl⟩
       ·simp[Instr.lookup,run_underlying T,h1,MapKept.run_getObj_map (A w' E),M,q3]
    ·exact h.elim
   ·exact h.elim
  ·exact h.elim
 ·exact h.elim
end
end Go.Aw
end
section
namespace Go.Aw
open Go.RowKit
section
variable{P:Program}{S:Sg}{H:aG}{w:World}{G:Option Bool}{K:AV->Prop}
def wT{s:Sem Value}{v:Value}{w':World}(h:s.run P w'=.ok v w'):(do pure (Next.value (<-s)):Sem Next).run P w'=.ok (.value v) w':=by simp[h]
def kF(P:Program)(S:Sg)(H:aG)(w:World)(a:Act)(op:Op)(z:AV):Prop:=
 ∃v,rep S w z v/\∀w',Agree S H w w'->∀o:Oper,o.op=op->(execOp a.eval o).run P w'=.ok (.value v) w'
def kF.of_does{a:Act}{op:Op}{z:AV}{s:Sem Value}(E:tN P S H w z s)(M:∀o:Oper,o.op=op->execOp a.eval o=(do pure (Next.value (<-s)):Sem Next)):kF P S H w a op z:=by obtain⟨v,A,J⟩:=E;exact⟨v,A,fun w' F o I=>by rw[M o I];exact wT (J w' F)⟩
def lE{G:Option Bool}{ρ:Env}{a:Act}(F:FR S w ρ a):∀(l:List Operand) {K:List AV->Prop},(∀x∈l,opB a.tmps.size x=true)->yH G ρ l K ->
  ∃A,K A/\(gt G->aW S w A (l.map a.eval))
 | [],K,_,h=>⟨[],h,fun _=>by simp[aW]⟩
 | x::rest,K,hb,h=>by simp only[yH]at h;obtain⟨y,h,J⟩:=aS (S:=S) (w:=w) h;obtain⟨A,O,E⟩:=lE F rest (fun x M=>hb x (by simp[M])) h;refine⟨_,O,fun I=>?_⟩;simp only[List.map_cons,aW];exact⟨_,_,rfl,J I _ (cC F (hb x (by simp))),E I⟩
def BY{ρ:Env}{a:Act}{op:Op}(hb:∀x∈op.operands,opB a.tmps.size x=true)(hF:FR S w ρ a)(hH:vP S w H)(h:fR P G ρ H op K):
  ∃z,K z/\(gt G->kF P S H w a op z):=by
 have ev:=fun x J=>cC hF (hb x J)
 cases op <;> simp only[fR]at h <;> simp only[Op.operands]at ev hb <;> try exact h.elim
 case move x=>obtain⟨z,F,M⟩:=aS (S:=S) (w:=w) h;exact⟨z,F,fun A=>⟨_,M A _ (ev x (by simp)),fun w' _ o E=>by simp[execOp,E]⟩⟩
 case assign x=>obtain⟨z,F,M⟩:=aS (S:=S) (w:=w) h;exact⟨z,F,fun A=>⟨_,M A _ (ev x (by simp)),fun w' _ o E=>by simp[execOp,E]⟩⟩
 case pick c x y=>
  obtain⟨zc,h,Y⟩:=aS (S:=S) (w:=w) h;split at h
  ·rename_i b;obtain⟨z,F,M⟩:=LG (S:=S) (w:=w) h;refine⟨z,F,fun A=>?_⟩;have e:=VA (Y A _ (ev c (by simp)));refine⟨_,M A _ _ (ev x (by simp)) (ev y (by simp)),fun w' _ o E=>?_⟩;simp[execOp,E,e,asBool]
  ·exact h.elim
 case build t parts=>
  obtain⟨ps,h,ak⟩:=lS hF parts.toList (fun p hp=>hb p.2 (by simpa using⟨p.1,by simpa using hp⟩)) h;unfold tK at h;split at h
  ·rename_i z pl F ai;split at h
   ·rename_i cs ag;refine⟨_,h,fun A=>?_⟩;obtain⟨e1,e2⟩:=ak A;obtain⟨A',f1,f2,f3⟩:=IB (S:=S) (w:=w) F ai ag e1 e2;refine⟨.agg A',by simp only[rep];exact⟨A'.toList,by simp,f2,f3⟩,fun w' _ o E=>?_⟩;have:(parts.map fun(p:Nat×Operand)=>(p.1,a.eval p.2)).toList=parts.toList.map fun p=>(p.1,a.eval p.2):=by simp
    rw[<-this]at f1;simp only[execOp,E];exact wT (run_build w' t _ A' f1)
   ·exact h.elim
  ·exact h.elim
 case load t x=>
  split at h
  ·rename_i l hl;obtain⟨y,h,M⟩:=aS (S:=S) (w:=w) h;obtain⟨z,F,O⟩:=Ct hl hH h;exact⟨z,F,fun A=>kF.of_does (O A _ (M A _ (ev x (by simp)))) (fun o E=>by simp[execOp,E])⟩
  ·exact h.elim
 case nilCheck x=>
  obtain⟨y,h,M⟩:=aS (S:=S) (w:=w) h;split at h
  ·refine⟨_,h,fun A=>?_⟩;have e:=M A _ (ev x (by simp));refine⟨_,e,fun w' _ o E=>?_⟩;simp only[rep]at e;obtain⟨b,p,e,_⟩:=e;simp[execOp,E,e]
  ·refine⟨_,h,fun A=>?_⟩;have e:=M A _ (ev x (by simp));refine⟨_,e,fun w' _ o E=>?_⟩;simp only[rep]at e;obtain⟨_,b,p,c,_,e⟩:=e;simp[execOp,E,e]
  ·obtain⟨h0,cs,off,h⟩:=h;exact⟨_,h,fun A=>(h0 A).elim⟩
  ·exact h.elim
 case binOp op t x y t'=>
  split at h
  ·rename_i ab;have M:y=.const (.slice none 0 0):=by
    unfold oV at ab;split at ab
    ·rfl
    ·simp at ab
   subst M;obtain⟨x',h,J⟩:=aS (S:=S) (w:=w) h;obtain⟨ah,h⟩:=h;obtain⟨e,al⟩:=qN ah;have I:∀(b:Bool) (ad:Option Addr) (n c:Nat),a.eval x=.slice ad n c->(op=.eql/\b=ad.isNone\/op=.neq/\b= !ad.isNone)->kF P S H w a (.binOp op t x (.const (.slice none 0 0)) t') (.v (.bool b)):=by
    intro b ad n c J hb;refine⟨.bool b,by simp only[rep],fun w' _ o E=>?_⟩;have ec:a.eval (.const (.slice none 0 0))=.slice none 0 0:=rfl;simp only[execOp,E,J,ec];have A:(eqGuard op t x (.const (.slice none 0 0)) (.slice ad n c) (.slice none 0 0)).run P w'=.ok () w':=fH op t x _ _ _ (by simp) (by simp) w';have he:(Op.equal t (.slice ad n c) (.slice none 0 0)).run P w'=.ok ad.isNone w':=by have e0:Op.equal t (.slice ad n c) (.slice none 0 0)=Op.equalIn (9999+1) t (.slice ad n c) (.slice none 0 0):=rfl;rw[e0];unfold Op.equalIn;cases ad <;> simp[run_underlying al]
    rcases hb with⟨rfl,rfl⟩|⟨rfl,rfl⟩
    ·exact wT (by simp only[Sem.run_bind,A,Result.andThen_ok];simp[binOp,he])
    ·exact wT (by simp only[Sem.run_bind,A,Result.andThen_ok];simp[binOp,he])
   by_cases A:gt G
   ·have Z:=J A _ (ev x (by simp));unfold nJ at h;split at h
    ·simp only[rep]at Z;obtain⟨ad,n,c,X,hl,_,_,Y⟩:=Z;cases ad with
     | none=>
      rcases Y with Y|⟨b,o,sz,Y,_⟩
      ·exact⟨_,h.1 Y,fun _=>I _ _ _ _ X (.inl ⟨rfl,rfl⟩)⟩
      ·simp at Y
     | some ad=>exact⟨_,h.2,fun _=>I _ _ _ _ X (.inl ⟨rfl,rfl⟩)⟩
    ·simp only[rep]at Z;obtain⟨ad,n,c,X,hl,_,_,Y⟩:=Z;cases ad with
     | none=>
      rcases Y with Y|⟨b,o,sz,Y,_⟩
      ·exact⟨_,h.1 Y,fun _=>I _ _ _ _ X (.inr ⟨rfl,rfl⟩)⟩
      ·simp at Y
     | some ad=>exact⟨_,h.2,fun _=>I _ _ _ _ X (.inr ⟨rfl,rfl⟩)⟩
    ·simp only[rep]at Z;obtain⟨_,_,ad,n,c,X⟩:=Z;cases ad with
     | none=>exact⟨_,h.1,fun _=>I _ _ _ _ X (.inl ⟨rfl,rfl⟩)⟩
     | some ad=>exact⟨_,h.2,fun _=>I _ _ _ _ X (.inl ⟨rfl,rfl⟩)⟩
    ·simp only[rep]at Z;obtain⟨_,_,ad,n,c,X⟩:=Z;cases ad with
     | none=>exact⟨_,h.1,fun _=>I _ _ _ _ X (.inr ⟨rfl,rfl⟩)⟩
     | some ad=>exact⟨_,h.2,fun _=>I _ _ _ _ X (.inr ⟨rfl,rfl⟩)⟩
    ·simp only[rep]at Z;exact⟨_,h,fun _=>I _ none 0 0 Z (.inl ⟨rfl,rfl⟩)⟩
    ·simp only[rep]at Z;exact⟨_,h,fun _=>I _ none 0 0 Z (.inr ⟨rfl,rfl⟩)⟩
    ·exact h.elim
   ·unfold nJ at h;split at h
    ·exact⟨_,h.2,fun T=>absurd T A⟩
    ·exact⟨_,h.2,fun T=>absurd T A⟩
    ·exact⟨_,h.2,fun T=>absurd T A⟩
    ·exact⟨_,h.2,fun T=>absurd T A⟩
    ·exact⟨_,h,fun T=>absurd T A⟩
    ·exact⟨_,h,fun T=>absurd T A⟩
    ·exact h.elim
  obtain⟨x',h,J⟩:=aS (S:=S) (w:=w) h;obtain⟨y',h,M⟩:=aS (S:=S) (w:=w) h;obtain⟨z,F,O⟩:=NT (S:=S) (H:=H) (w:=w) h;exact⟨z,F,fun A=>kF.of_does (O A _ _ (J A _ (ev x (by simp))) (M A _ (ev y (by simp))) x y) (fun o E=>by simp[execOp,E])⟩
 case unOp op t x=>obtain⟨x',h,J⟩:=aS (S:=S) (w:=w) h;obtain⟨z,F,O⟩:=QN (P:=P) (S:=S) (H:=H) (w:=w) h;exact⟨z,F,fun A=>kF.of_does (O _ (J A _ (ev x (by simp)))) (fun o E=>by simp[execOp,E])⟩
 case convert src dst x=>obtain⟨x',h,J⟩:=aS (S:=S) (w:=w) h;obtain⟨z,F,O⟩:=KJ (S:=S) (H:=H) (w:=w) h;exact⟨z,F,fun A=>kF.of_does (O _ (J A _ (ev x (by simp)))) (fun o E=>by simp[execOp,E])⟩
 case slice t x lo U m=>
  cases m with
  | some m=>
   cases lo with
   | some lo=>exact h.elim
   | none=>
    cases U with
    | none=>exact h.elim
    | some U=>simp only at h;obtain⟨x',h,J⟩:=aS (S:=S) (w:=w) h;obtain⟨ae,h,aa⟩:=aS (S:=S) (w:=w) h;obtain⟨m',h,hm⟩:=aS (S:=S) (w:=w) h;obtain⟨z,F,O⟩:=BZ (S:=S) (w:=w) (H:=H) h;exact⟨z,F,fun A=>kF.of_does (O A _ _ _ (J A _ (ev x (by simp))) (aa A _ (ev U (by simp))) (hm A _ (ev m (by simp)))) (fun o E=>by simp[execOp,E])⟩
  | none=>
   simp only at h;obtain⟨x',h,J⟩:=aS (S:=S) (w:=w) h;cases lo with
   | some lo=>
    cases U with
    | some U=>
     obtain⟨af,h,ac⟩:=aS (S:=S) (w:=w) h;obtain⟨ae,h,aa⟩:=aS (S:=S) (w:=w) h;obtain⟨z,F,O⟩:=oM hH h;refine⟨z,F,fun A=>kF.of_does (O A _ (some (a.eval lo)) (some (a.eval U)) (J A _ (ev x (by simp))) ?_ (by simp) ?_ (by simp)) (fun o E=>by simp[execOp,E])⟩
     ·intro y M;injection M with M;subst M;exact⟨_,rfl,ac A _ (ev lo (by simp))⟩
     ·intro y M;injection M with M;subst M;exact⟨_,rfl,aa A _ (ev U (by simp))⟩
    | none=>obtain⟨af,h,ac⟩:=aS (S:=S) (w:=w) h;obtain⟨z,F,O⟩:=oM hH h;refine⟨z,F,fun A=>kF.of_does (O A _ (some (a.eval lo)) none (J A _ (ev x (by simp))) ?_ (by simp) (by simp) (by simp)) (fun o E=>by simp[execOp,E])⟩;intro y M;injection M with M;subst M;exact⟨_,rfl,ac A _ (ev lo (by simp))⟩
   | none=>
    cases U with
    | some U=>obtain⟨ae,h,aa⟩:=aS (S:=S) (w:=w) h;obtain⟨z,F,O⟩:=oM hH h;refine⟨z,F,fun A=>kF.of_does (O A _ none (some (a.eval U)) (J A _ (ev x (by simp))) (by simp) (by simp) ?_ (by simp)) (fun o E=>by simp[execOp,E])⟩;intro y M;injection M with M;subst M;exact⟨_,rfl,aa A _ (ev U (by simp))⟩
    | none=>exact h.elim
 case fieldAddr t x f=>obtain⟨x',h,J⟩:=aS (S:=S) (w:=w) h;obtain⟨z,F,O⟩:=A9 (G:=G) (S:=S) (H:=H) (w:=w) h;exact⟨z,F,fun A=>kF.of_does (O A _ (J A _ (ev x (by simp)))) (fun o E=>by simp[execOp,E])⟩
 case field t x f=>
  split at h
  ·rename_i o l E;obtain⟨x',h,J⟩:=aS (S:=S) (w:=w) h;obtain⟨fs,fd,i,hu,hf,rfl,U,_,hl⟩:=yC E;obtain⟨z,F,O⟩:=Ck (S:=S) (H:=H) (w:=w) hl h;refine⟨z,F,fun A=>?_⟩;obtain⟨cs,e,O⟩:=O A _ (J A _ (ev x (by simp)));refine kF.of_does (s:=Instr.field t (.agg cs) f) ?_ (fun o E=>by simp[execOp,E,e]);obtain⟨v,X,hr⟩:=O;refine⟨v,X,fun w' ha=>?_⟩;simp[Instr.field,run_underlying hu,hf,asAgg,hr w' ha]
  ·exact h.elim
 case indexAddr t x i=>obtain⟨x',h,J⟩:=aS (S:=S) (w:=w) h;obtain⟨i',h,U⟩:=aS (S:=S) (w:=w) h;obtain⟨z,F,O⟩:=BH hH h;exact⟨z,F,fun A=>kF.of_does (O A _ _ (J A _ (ev x (by simp))) (U A _ (ev i (by simp)))) (fun o E=>by simp[execOp,E])⟩
 case index t x i=>obtain⟨x',h,J⟩:=aS (S:=S) (w:=w) h;obtain⟨i',h,U⟩:=aS (S:=S) (w:=w) h;obtain⟨z,F,O⟩:=HH (S:=S) (H:=H) (w:=w) h;exact⟨z,F,fun A=>kF.of_does (O A _ _ (J A _ (ev x (by simp))) (U A _ (ev i (by simp)))) (fun o E=>by simp[execOp,E])⟩
 case extract x i=>
  obtain⟨x',h,J⟩:=aS (S:=S) (w:=w) h;split at h
  ·rename_i vs;refine⟨_,h.2,fun A=>?_⟩;have e:=J A _ (ev x (by simp));simp only[rep]at e;obtain⟨l,e,hl⟩:=e;obtain⟨u,h1,h2⟩:=Aa vs l i hl (h.1 A);exact⟨u,h2,fun w' _ o E=>by simp[execOp,E,e,Instr.extract,h1]⟩
  ·exact h.elim
 case lookup t x i ok=>obtain⟨x',h,J⟩:=aS (S:=S) (w:=w) h;obtain⟨i',h,U⟩:=aS (S:=S) (w:=w) h;obtain⟨z,F,O⟩:=Fi (G:=G) hH h;exact⟨z,F,fun A=>kF.of_does (O A _ _ (J A _ (ev x (by simp))) (U A _ (ev i (by simp)))) (fun o E=>by simp[execOp,E])⟩
 case makeFunc f first cap=>
  cases f <;> simp only at h <;> try exact h.elim
  rename_i f;obtain⟨hf,h⟩:=h;subst hf;obtain⟨ys,F,aj⟩:=lE hF cap.toList (fun x J=>hb x (by simp[Array.mem_toList_iff.1 J])) h;refine⟨_,F,fun A=>⟨.func (.func f) #[] (cap.map a.eval),?_,fun w' _ o E=>by simp[execOp,E,Instr.makeFunc]⟩⟩;simp only[rep];exact⟨cap.toList.map a.eval,by rw[<-Array.toList_map],aj A⟩
def Al{H':aG}{ρ:Env}{a:Act}{t:TypeId}{x:Operand}{lo F m:Option Operand}(hb:∀y∈(Op.slice t x lo F m).operands,opB a.tmps.size y=true)(hF:FR S w ρ a)(Z:vP S w H)(h:fR P G ρ H (.slice t x lo F m) K):
  ∃z,K z/\(gt G->kF P S H' w a (.slice t x lo F m) z):=by
 have ev:=fun x J=>cC hF (hb x J)
 simp only[fR]at h;simp only[Op.operands]at ev hb;cases m with
 | some m=>
  cases lo with
  | some lo=>exact h.elim
  | none=>
   cases F with
   | none=>exact h.elim
   | some F=>simp only at h;obtain⟨x',h,J⟩:=aS (S:=S) (w:=w) h;obtain⟨X,h,I⟩:=aS (S:=S) (w:=w) h;obtain⟨m',h,hm⟩:=aS (S:=S) (w:=w) h;obtain⟨z,U,M⟩:=BZ (S:=S) (w:=w) (H:=H') h;exact⟨z,U,fun A=>kF.of_does (M A _ _ _ (J A _ (ev x (by simp))) (I A _ (ev F (by simp))) (hm A _ (ev m (by simp)))) (fun o O=>by simp[execOp,O])⟩
 | none=>
  simp only at h;obtain⟨x',h,J⟩:=aS (S:=S) (w:=w) h;cases lo with
  | some lo=>
   cases F with
   | some F=>
    obtain⟨Y,h,T⟩:=aS (S:=S) (w:=w) h;obtain⟨X,h,I⟩:=aS (S:=S) (w:=w) h;obtain⟨z,U,M⟩:=oM Z h;refine⟨z,U,fun A=>kF.of_does (M A _ (some (a.eval lo)) (some (a.eval F)) (J A _ (ev x (by simp))) ?_ (by simp) ?_ (by simp)) (fun o O=>by simp[execOp,O])⟩
    ·intro y E;injection E with E;subst E;exact⟨_,rfl,T A _ (ev lo (by simp))⟩
    ·intro y E;injection E with E;subst E;exact⟨_,rfl,I A _ (ev F (by simp))⟩
   | none=>obtain⟨Y,h,T⟩:=aS (S:=S) (w:=w) h;obtain⟨z,U,M⟩:=oM Z h;refine⟨z,U,fun A=>kF.of_does (M A _ (some (a.eval lo)) none (J A _ (ev x (by simp))) ?_ (by simp) (by simp) (by simp)) (fun o O=>by simp[execOp,O])⟩;intro y E;injection E with E;subst E;exact⟨_,rfl,T A _ (ev lo (by simp))⟩
  | none=>
   cases F with
   | some F=>obtain⟨X,h,I⟩:=aS (S:=S) (w:=w) h;obtain⟨z,U,M⟩:=oM Z h;refine⟨z,U,fun A=>kF.of_does (M A _ none (some (a.eval F)) (J A _ (ev x (by simp))) (by simp) (by simp) ?_ (by simp)) (fun o O=>by simp[execOp,O])⟩;intro y E;injection E with E;subst E;exact⟨_,rfl,I A _ (ev F (by simp))⟩
   | none=>exact h.elim
end
end Go.Aw
end
section
namespace Go.Aw
def Ue:Array Value:=(Go.Lib.pow10Tab.map fun z=>Value.int .u64 z).toArray
def OH:Array Value:=(Go.Lib.deBruijn64tab.map fun z:Nat=>Value.int .u8 (z:Int)).toArray
def QG:List (Nat×Array Value):=[(1,Ue),(3,OH)]
end Go.Aw
end
