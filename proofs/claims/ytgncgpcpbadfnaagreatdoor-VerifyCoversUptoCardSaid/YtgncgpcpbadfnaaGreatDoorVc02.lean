import Derived.MapKept
import Derived.Lib.ItoaMem
import Derived.Lib.TrailingZeros
import Derived.Test.YtgncgpcpbadfnaaGreatDoorVc01
set_option linter.unusedSimpArgs false
set_option linter.unusedVariables false
set_option linter.defProp false
set_option maxRecDepth 100000
section
namespace Go.Aw
open Go.RowKit
structure Sg where
 ro:Nat->Prop
 fz:Nat->Prop
 loc:Nat->Value
 sz:Nat->Nat
 N:Nat
mutual
def rep(S:Sg)(w:World):AV->Value->Prop
 | .v x,y=>y=x
 | .any,_=>True
 | .sl es,y=>∃ad n c,y=.slice ad n c/\es.length=n/\n<=c/\c<=maxLen/\(es=[]\/∃b o sz,ad=some ⟨b,o,none⟩/\S.ro b/\0<sz/\gI S w b sz o es)
 | .rp cs off,y=>∃b o,y=.pointer (some ⟨b,o+off,none⟩)/\S.ro b/\cM S w b o cs
 | .agg cs,y=>∃l:List Value,y=.agg l.toArray/\bC S w cs l/\∀u∈l,u.oneCell'=true
 | .tup vs,y=>∃l:List Value,y=.tuple l.toArray/\bC S w vs l
 | .os k,y=>k<S.N/\y=S.loc k/\∃a n c,y=.slice a n c
 | .op k i f,y=>k<S.N/\∃g n c,S.loc k=.slice (some ⟨g,0,none⟩) n c/\y=.pointer (some ⟨g,i*S.sz k+f,none⟩)
 | .gd g x,y=>(g=true->rep S w x y)/\(g=false->y=undef)
 | .nf x,y=>rep S w x y
 | .fn f cap,y=>∃l:List Value,y=.func (.func f) #[] l.toArray/\bC S w cap l
 | .om k,y=>k<S.N/\y=S.loc k/\∃g,y=.map (some g)
 | .cl es,y=>∃ad n,y=.slice ad n n/\es.length=n/\n<=maxLen/\(es=[]\/∃b o sz,ad=some ⟨b,o,none⟩/\S.ro b/\0<sz/\gI S w b sz o es)
 | .oz k a b,y=>k<S.N/\∃ad n c ad' cc,S.loc k=.slice ad n c/\y=.slice ad' (b-a) cc/\a<=b/\b<=n/\(a<c->∃g,ad=some ⟨g,0,none⟩/\ad'=some ⟨g,a*S.sz k,none⟩)/\(a=0->ad'=ad/\cc=c)/\n<=c/\cc=c-a
def bC(S:Sg)(w:World):List AV->List Value->Prop
 | [],l=>l=[]
 | x::r,l=>∃u t,l=u::t/\rep S w x u/\bC S w r t
def cM(S:Sg)(w:World)(b:Nat):Nat->List AV->Prop
 | _,[]=>True
 | o,x::r=>(∃u,w.cell? ⟨b,o,none⟩=some u/\u.oneCell'=true/\rep S w x u)/\cM S w b (o+1) r
def gI(S:Sg)(w:World)(b sz:Nat):Nat->List (List AV)->Prop
 | _,[]=>True
 | o,cs::r=>cs.length=sz/\cM S w b o cs/\gI S w b sz (o+sz) r
end
structure Sg.le(S S':Sg):Prop where
 ro:∀k,S.ro k->S'.ro k
 N:S.N<=S'.N
 loc:∀k,k<S.N->S'.loc k=S.loc k
 sz:∀k,k<S.N->S'.sz k=S.sz k
def Sg.le_refl(S:Sg):S.le S:=⟨fun _ h=>h,Nat.le_refl _,fun _ _=>rfl,fun _ _=>rfl⟩
def Sg.le_trans{S S' E:Sg}(h:S.le S')(F:S'.le E):S.le E:=
 ⟨fun k A=>F.ro k (h.ro k A),Nat.le_trans h.N F.N,fun k A=>(F.loc k (Nat.lt_of_lt_of_le A h.N)).trans (h.loc k A),
  fun k A=>(F.sz k (Nat.lt_of_lt_of_le A h.N)).trans (h.sz k A)⟩
def blk:Value->Option Nat
 | .slice (some a) _ _=>some a.block
 | .map (some g)=>some g
 | _=>none
def fN(S:Sg)(w w':World):Prop:=∀k,S.ro k->w'.heap[k]?=w.heap[k]?
def fN.refl(S:Sg)(w:World):fN S w w:=fun _ _=>rfl
section
variable{S S':Sg}{w w':World}
def fN.cell(h:fN S w w'){b o:Nat}(A:S.ro b):w'.cell? ⟨b,o,none⟩=w.cell? ⟨b,o,none⟩:=World.cell?_of_block (a:=⟨b,o,none⟩) (h b A)
mutual
def lG(A:S.le S')(E:fN S w w'):∀(x:AV) (y:Value),rep S w x y->rep S' w' x y
 | .v _,_,h=>h
 | .any,_,_=>trivial
 | .sl es,y,h=>by
  simp only[rep]at h |-;obtain⟨ad,n,c,rfl,h1,Y,T,I⟩:=h;refine⟨ad,n,c,rfl,h1,Y,T,?_⟩;rcases I with I|⟨b,o,sz,rfl,F,M,O⟩
  ·exact .inl I
  ·exact .inr ⟨b,o,sz,rfl,A.ro b F,M,BM A E F sz o es O⟩
 | .rp cs off,y,h=>by simp only[rep]at h |-;obtain⟨b,o,rfl,F,X⟩:=h;exact⟨b,o,rfl,A.ro b F,xC A E F o cs X⟩
 | .agg cs,y,h=>by simp only[rep]at h |-;obtain⟨l,rfl,J,h1⟩:=h;exact⟨l,rfl,dK A E cs l J,h1⟩
 | .tup vs,y,h=>by simp only[rep]at h |-;obtain⟨l,rfl,J⟩:=h;exact⟨l,rfl,dK A E vs l J⟩
 | .os k,y,h=>by simp only[rep]at h |-;exact⟨Nat.lt_of_lt_of_le h.1 A.N,by rw[A.loc k h.1];exact h.2⟩
 | .op k i f,y,h=>by simp only[rep]at h |-;refine⟨Nat.lt_of_lt_of_le h.1 A.N,?_⟩;rw[A.loc k h.1,A.sz k h.1];exact h.2
 | .gd g x,y,h=>by simp only[rep]at h |-;exact⟨fun U=>lG A E x y (h.1 U),h.2⟩
 | .nf x,y,h=>by simp only[rep]at h |-;exact lG A E x y h
 | .fn f cap,y,h=>by simp only[rep]at h |-;obtain⟨l,rfl,J⟩:=h;exact⟨l,rfl,dK A E cap l J⟩
 | .om k,y,h=>by simp only[rep]at h |-;exact⟨Nat.lt_of_lt_of_le h.1 A.N,by rw[A.loc k h.1];exact h.2⟩
 | .oz k a b,y,h=>by simp only[rep]at h |-;refine⟨Nat.lt_of_lt_of_le h.1 A.N,?_⟩;rw[A.loc k h.1,A.sz k h.1];exact h.2
 | .cl es,y,h=>by
  simp only[rep]at h |-;obtain⟨ad,n,rfl,h1,T,I⟩:=h;refine⟨ad,n,rfl,h1,T,?_⟩;rcases I with I|⟨b,o,sz,rfl,F,M,O⟩
  ·exact .inl I
  ·exact .inr ⟨b,o,sz,rfl,A.ro b F,M,BM A E F sz o es O⟩
def dK(E:S.le S')(A:fN S w w'):∀(x:List AV) (l:List Value),bC S w x l->bC S' w' x l
 | [],_,h=>h
 | x::r,l,h=>by simp only[bC]at h |-;obtain⟨u,t,rfl,h1,F⟩:=h;exact⟨u,t,rfl,lG E A x u h1,dK E A r t F⟩
def xC(E:S.le S')(A:fN S w w'){b:Nat}(F:S.ro b):∀(o:Nat) (x:List AV),cM S w b o x->cM S' w' b o x
 | _,[],_=>trivial
 | o,x::r,h=>by simp only[cM]at h |-;obtain⟨⟨u,h1,M,J⟩,I⟩:=h;exact⟨⟨u,by rw[A.cell F];exact h1,M,lG E A x u J⟩,xC E A F (o+1) r I⟩
def BM(A:S.le S')(E:fN S w w'){b:Nat}(F:S.ro b)(sz:Nat):∀(o:Nat) (x:List (List AV)),gI S w b sz o x->gI S' w' b sz o x
 | _,[],_=>trivial
 | o,x::r,h=>by simp only[gI]at h |-;exact⟨h.1,xC A E F o x h.2.1,BM A E F sz (o+sz) r h.2.2⟩
end
def zS:∀(cs:List AV) (o j:Nat) {b:Nat},cM S w b o cs->j<cs.length->∃u,w.cell? ⟨b,o+j,none⟩=some u/\u.oneCell'=true/\rep S w (cs.getD j .any) u
 | [],_,_,_,_,h=>by simp at h
 | x::r,o,0,b,h,_=>by simp only[cM]at h;simpa using h.1
 | x::r,o,j+1,b,h,hj=>by simp only[cM]at h;have:=zS r (o+1) j h.2 (by simpa using hj);rw[show o+1+j=o+(j+1)by omega]at this;simpa using this
def wG:∀(cs:List AV) (o j:Nat) {b:Nat},cM S w b o cs->cM S w b (o+j) (cs.drop j)
 | [],_,_,_,_=>by simp[cM]
 | x::r,o,0,b,h=>by simpa using h
 | x::r,o,j+1,b,h=>by simp only[cM]at h;have:=wG r (o+1) j h.2;rw[show o+1+j=o+(j+1)by omega]at this;simpa using this
def wQ:∀(cs:List AV) (o j:Nat) {b:Nat},cM S w b o cs->cM S w b o (cs.take j)
 | [],_,_,_,_=>by simp[cM]
 | x::r,o,0,b,h=>by simp[cM]
 | x::r,o,j+1,b,h=>by simp only[cM,List.take_succ_cons]at h |-;exact⟨h.1,wQ r (o+1) j h.2⟩
def lQ:∀(cs:List AV) (o:Nat) {b:Nat},cM S w b o cs->∃l:List Value,l.length=cs.length/\bC S w cs l/\(∀u∈l,u.oneCell'=true)/\∀j u,l[j]?=some u->w.cell? ⟨b,o+j,none⟩=some u
 | [],_,_,_=>⟨[],rfl,by simp[bC],by simp,by simp⟩
 | x::r,o,b,h=>by
  simp only[cM]at h;obtain⟨⟨u,h1,T,M⟩,E⟩:=h;obtain⟨l,O,J,I,F⟩:=lQ r (o+1) E;refine⟨u::l,by simp[O],?_,?_,?_⟩
  ·simp only[bC];exact⟨u,l,rfl,M,J⟩
  ·intro v A;rcases List.mem_cons.1 A with rfl|A
   ·exact T
   ·exact I v A
  ·intro j v A;cases j with
   | zero=>simp at A;subst A;simpa using h1
   | succ j=>rw[show o+(j+1)=o+1+j by omega];exact F j v (by simpa using A)
def rJ:∀(es:List (List AV)) (o i:Nat) {b sz:Nat},gI S w b sz o es->i<es.length->(es.getD i []).length=sz/\cM S w b (o+i*sz) (es.getD i [])
 | [],_,_,_,_,_,h=>by simp at h
 | x::r,o,0,b,sz,h,_=>by simp only[gI]at h;simpa using⟨h.1,h.2.1⟩
 | x::r,o,i+1,b,sz,h,hi=>by simp only[gI]at h;have:=rJ r (o+sz) i h.2.2 (by simpa using hi);rw[show o+sz+i*sz=o+(i+1)*sz by rw[Nat.add_mul];omega]at this;simpa using this
def BE:∀(es:List (List AV)) (o i:Nat) {b sz:Nat},gI S w b sz o es->gI S w b sz (o+i*sz) (es.drop i)
 | [],_,_,_,_,_=>by simp[gI]
 | x::r,o,0,b,sz,h=>by simpa using h
 | x::r,o,i+1,b,sz,h=>by simp only[gI]at h;have:=BE r (o+sz) i h.2.2;rw[show o+sz+i*sz=o+(i+1)*sz by rw[Nat.add_mul];omega]at this;simpa using this
def xB:∀(es:List (List AV)) (o i:Nat) {b sz:Nat},gI S w b sz o es->gI S w b sz o (es.take i)
 | [],_,_,_,_,_=>by simp[gI]
 | x::r,o,0,b,sz,h=>by simp[gI]
 | x::r,o,i+1,b,sz,h=>by simp only[gI,List.take_succ_cons]at h |-;exact⟨h.1,h.2.1,xB r _ i h.2.2⟩
def sD:∀(xs A:List AV) (o:Nat) {b:Nat},cM S w b o (xs++A)↔cM S w b o xs/\cM S w b (o+xs.length) A
 | [],A,o,b=>by simp[cM]
 | x::r,A,o,b=>by simp only[List.cons_append,cM,sD r A (o+1),List.length_cons,show o+1+r.length=o+(r.length+1)by omega,and_assoc]
def wA:∀(es:List (List AV)) (o:Nat) {b sz:Nat},gI S w b sz o es->cM S w b o es.flatten
 | [],_,_,_,_=>by simp[cM]
 | x::r,o,b,sz,h=>by simp only[gI]at h;rw[List.flatten_cons,sD];refine⟨h.2.1,?_⟩;rw[h.1];exact wA r _ h.2.2
def pG:∀(es:List (List AV)) (o:Nat) {b sz:Nat},(∀cs∈es,cs.length=sz)->cM S w b o es.flatten->gI S w b sz o es
 | [],_,_,_,_,_=>by simp[gI]
 | x::r,o,b,sz,hl,h=>by rw[List.flatten_cons,sD]at h;have A:=hl x (by simp);rw[A]at h;simp only[gI];exact⟨A,h.1,pG r _ (fun cs E=>hl cs (by simp[E])) h.2⟩
def mJ:∀(es:List (List AV)) {sz:Nat},(∀cs∈es,cs.length=sz)->es.flatten.length=es.length*sz
 | [],_,_=>by simp
 | x::r,sz,hl=>by rw[List.flatten_cons,List.length_append,hl x (by simp),mJ r (fun cs A=>hl cs (by simp[A])),List.length_cons,Nat.add_mul];omega
def fS:∀(x:List AV) (l:List Value),bC S w x l->l.length=x.length
 | [],l,h=>by simp only[bC]at h;simp[h]
 | x::r,l,h=>by simp only[bC]at h;obtain⟨u,t,rfl,_,A⟩:=h;simp[fS r t A]
def BT:∀(x:List AV) (l:List Value) (j:Nat),bC S w x l->j<x.length->∃u,l[j]?=some u/\rep S w (x.getD j .any) u
 | [],_,_,_,h=>by simp at h
 | x::r,l,j,h,hj=>by
  simp only[bC]at h;obtain⟨u,t,rfl,h1,F⟩:=h;cases j with
  | zero=>exact⟨u,by simp,by simpa using h1⟩
  | succ j=>obtain⟨v,E,A⟩:=BT r t j F (by simpa using hj);exact⟨v,by simpa using E,by simpa using A⟩
def cR:∀(x y:List AV) (l m:List Value),bC S w x l->bC S w y m->bC S w (x++y) (l++m)
 | [],y,l,m,h,h'=>by simp only[bC]at h;subst h;simpa using h'
 | x::r,y,l,m,h,h'=>by simp only[bC]at h;obtain⟨u,t,rfl,h1,A⟩:=h;simp only[List.cons_append,bC];exact⟨u,t++m,rfl,h1,cR r y t m A h'⟩
def rK:∀(x:List AV) (l:List Value) (j:Nat),bC S w x l->bC S w (x.drop j) (l.drop j)
 | [],l,j,h=>by simp only[bC]at h;subst h;simp[bC]
 | x::r,l,j,h=>by
  cases j with
  | zero=>simpa using h
  | succ j=>simp only[bC]at h;obtain⟨u,t,rfl,_,A⟩:=h;simpa using rK r t j A
def rH:∀(x:List AV) (l:List Value) (j:Nat),bC S w x l->bC S w (x.take j) (l.take j)
 | [],l,j,h=>by simp only[bC]at h;subst h;simp[bC]
 | x::r,l,j,h=>by
  cases j with
  | zero=>simp[bC]
  | succ j=>simp only[bC]at h;obtain⟨u,t,rfl,h1,A⟩:=h;simp only[List.take_succ_cons,bC];exact⟨u,t.take j,rfl,h1,rH r t j A⟩
def iJ:∀(x:List AV) (l:List Value) (o:Nat) {b:Nat},bC S w x l->(∀u∈l,u.oneCell'=true)->(∀j u,l[j]?=some u->w.cell? ⟨b,o+j,none⟩=some u)->cM S w b o x
 | [],_,_,_,_,_,_=>by simp[cM]
 | x::r,l,o,b,h,h1,hc=>by simp only[bC]at h;obtain⟨u,t,rfl,F,E⟩:=h;simp only[cM];refine⟨⟨u,by simpa using hc 0 u (by simp),h1 u (by simp),F⟩,iJ r t (o+1) E (fun v A=>h1 v (by simp[A])) fun j v A=>?_⟩;rw[show o+1+j=o+(j+1)by omega];exact hc (j+1) v (by simpa using A)
end
end Go.Aw
end
section
namespace Go.Aw
open Go.RowKit
def kJ(S:Sg)(w:World):Nat->List (List AV)->List MapEntry->Prop
 | _,[],ms=>ms=[]
 | i,cs::r,ms=>∃m t,ms=m::t/\m.born=i/\bC S w cs [m.key,m.val]/\kJ S w (i+1) r t
def J5(S:Sg)(w:World)(k:Nat)(r:Row):Prop:=∃xs,w.ownsRow 0 r.e r.sz (S.loc k) r.es.length xs/\bC S w r.es.flatten xs/\∀u∈xs,u.oneCell'=true
def Zx(S:Sg)(w:World)(k:Nat)(r:Row):Prop:=∃g ms,S.loc k=.map (some g)/\w.heap[g]?=some (.map (List.toArray ms) ms.length)/\kJ S w 0 r.es ms/\r.sz=2
def agA(a:Option Addr)(n c:Nat):blk (.slice a n c)=(Value.slice a n c).ownBlock:=by cases a <;> rfl
structure RowOK(S:Sg)(w:World)(k:Nat)(r:Row):Prop where
 lt:k<S.N
 sz:r.sz=S.sz k
 pos:0<r.sz
 len:∀cs∈r.es,cs.length=r.sz
 own:J5 S w k r\/Zx S w k r
def yK(S:Sg)(w:World)(H:aH):Prop:=∀k r,H k=some r->RowOK S w k r
def RowOK.sl{S:Sg}{w:World}{k:Nat}{r:Row}(h:RowOK S w k r){a:Option Addr}{n c:Nat}(A:S.loc k=.slice a n c):J5 S w k r:=by
 rcases h.own with h1|⟨g,ms,h1,_⟩
 ·exact h1
 ·rw[A]at h1;cases h1
def RowOK.mp{S:Sg}{w:World}{k:Nat}{r:Row}(h:RowOK S w k r){g:Nat}(E:S.loc k=.map (some g)):Zx S w k r:=by
 rcases h.own with⟨xs,A,_⟩|h1
 ·rcases A.2 with⟨hv,_⟩|⟨_,_,_,hv,_⟩ <;> (rw[E]at hv;cases hv)
 ·exact h1
structure Agree(S:Sg)(H:aH)(w w':World):Prop where
 kept:fN S w w'
 own:∀k r,H k=some r->∀g,blk (S.loc k)=some g->w'.heap[g]?=w.heap[g]?
def Agree.refl(S:Sg)(H:aH)(w:World):Agree S H w w:=⟨fN.refl S w,fun _ _ _ _ _=>rfl⟩
def wX(P:Program)(S:Sg)(H:aH)(w:World)(z:AV)(e:Sem Value):Prop:=
 ∃v,rep S w z v/\∀w',Agree S H w w'->e.run P w'=.ok v w'
section
variable{P:Program}{S:Sg}{H:aH}{w:World}{G:Option Bool}{K:AV->Prop}
def kG{x:Value}:rep S w (.v x) x:=by simp only[rep]
def uR{t:TypeId}{l:Option Nat}(h:ldT P t=some l):∃d,P.underlying t=some d /\
  match l with
  | none=>(∀fs,d≠.struct fs)/\∀n e,d≠.array n e
  | some n=>((∃fs,d=.struct fs)\/∃m e,d=.array m e)/\∃i,P.info? t=some i/\i.size=n:=by
 unfold ldT at h;cases E:P.underlying t with
 | none=>rw[E]at h;simp at h
 | some d=>
  refine⟨d,rfl,?_⟩;rw[E]at h;cases A:P.info? t with
  | none=>rw[A]at h;cases d <;> simp at h
  | some i=>rw[A]at h;cases d <;> simp at h <;> subst h <;> simp
def qN{t:TypeId}{l:Option Nat}(h:ldT P t=some l)(w:World):(isAgg t).run P w=.ok l.isSome w:=by
 obtain⟨d,E,A⟩:=uR h;cases l with
 | none=>obtain⟨h1,F⟩:=A;simp only[isAgg,Sem.run_bind,run_underlying E,Result.andThen];cases d <;> simp_all
 | some n=>obtain⟨h1,_⟩:=A;simp only[isAgg,Sem.run_bind,run_underlying E,Result.andThen];rcases h1 with⟨fs,rfl⟩|⟨m,e,rfl⟩ <;> simp
def tZ{t:TypeId}{n:Nat}(h:ldT P t=some (some n))(w:World):(sizeOf t).run P w=.ok n w:=by obtain⟨d,F,A⟩:=uR h;obtain⟨_,i,E,rfl⟩:=A;simp[sizeOf,typeInfo,E]
def xR{t:TypeId}(h:ldT P t=some none){a:Addr}{v:Value}(A:w.cell? a=some v):(loadVar t a).run P w=.ok v w:=by simp[loadVar,qN h,A]
def vI{t:TypeId}{l:List Value}(h:ldT P t=some (some l.length)){b o:Nat}(E:∀j v,l[j]?=some v->w.cell? ⟨b,o+j,none⟩=some v):
  (loadVar t ⟨b,o,none⟩).run P w=.ok (.agg l.toArray) w:=by
 have:=run_loadCells_list (P:=P) w ⟨b,o,none⟩ l (fun j v A=>by rw[Addr.add_lit];exact E j v A);simp[loadVar,qN h,tZ h,this]
def RowOK.cells{k:Nat}{r:Row}(h:RowOK S w k r){J:Option Addr}{T O:Nat}(M:S.loc k=.slice J T O)(A:r.es≠[]):∃g n c,S.loc k=.slice (some ⟨g,0,none⟩) n c/\cM S w g 0 r.es.flatten/\n=r.es.length:=by
 obtain⟨xs,E,I,h1⟩:=h.sl M;rcases E.2 with⟨_,U⟩|⟨g,cap,cur,F,_⟩
 ·exact absurd (List.eq_nil_of_length_eq_zero U) A
 ·refine⟨g,_,cap,F,?_,rfl⟩;refine iJ _ xs 0 I h1 fun j u X=>?_
  have:=E.cells (g:=g) (by rw[F];rfl) j u X
  rwa [Addr.add_lit]at this
def RowOK.els{k:Nat}{r:Row}(h:RowOK S w k r){F:Option Addr}{E M:Nat}(I:S.loc k=.slice F E M)(A:r.es≠[]):∃g n c,S.loc k=.slice (some ⟨g,0,none⟩) n c/\gI S w g r.sz 0 r.es/\n=r.es.length:=by obtain⟨g,n,c,h1,O,J⟩:=h.cells I A;exact⟨g,n,c,h1,pG _ _ h.len O,J⟩
def Agree.cell{w':World}(E:Agree S H w w'){b o:Nat}{u:Value}(A:S.ro b)(h:w.cell? ⟨b,o,none⟩=some u):w'.cell? ⟨b,o,none⟩=some u:=(E.kept.cell A).trans h
def Agree.cellOwn{w':World}(F:Agree S H w w'){k g n c o:Nat}{r:Row}{u:Value}(E:H k=some r)(A:S.loc k=.slice (some ⟨g,0,none⟩) n c)(h:w.cell? ⟨g,o,none⟩=some u):w'.cell? ⟨g,o,none⟩=some u:=by have:=F.own k r E g (by rw[A];rfl);exact(World.cell?_of_block (a:=⟨g,o,none⟩) this).trans h
def DS{t:TypeId}{l:Option Nat}{x:AV}(U:ldT P t=some l)(hH:yK S w H)(h:nG G H l x K):
  ∃z,K z/\(gt G->∀u,rep S w x u->wX P S H w z (Instr.loadAt t u)):=by
 unfold nG at h;split at h
 ·rename_i cs off;cases l with
  | none=>refine⟨_,h.2,fun O u I=>?_⟩;simp only[rep]at I;obtain⟨b,o,rfl,hb,hc⟩:=I;obtain⟨v,h1,_,h3⟩:=zS cs o off hc (h.1 O);refine⟨v,h3,fun w' J=>?_⟩;simp[Instr.loadAt,Instr.sureAddr,xR U (J.cell hb h1)]
  | some n=>
   refine⟨_,h.2,fun O u I=>?_⟩;simp only[rep]at I;obtain⟨b,o,rfl,hb,hc⟩:=I;obtain⟨l,F,X,Z,Y⟩:=lQ _ _ (wQ _ _ n (wG cs o off hc));have aa:=h.1 O;have hn:l.length=n:=by rw[F];simp;omega
   refine⟨.agg l.toArray,by simp only[rep];exact⟨l,rfl,X,Z⟩,fun w' J=>?_⟩;rw[<-hn]at U;simp[Instr.loadAt,Instr.sureAddr,vI U (fun j v hj=>J.cell hb (Y j v hj))]
 ·rename_i k i f;split at h
  ·rename_i r hk;have hr:=hH k r hk;cases l with
   | none=>
    refine⟨_,h.2,fun O u I=>?_⟩;simp only[rep]at I;obtain⟨_,g,n,c,A,rfl⟩:=I;obtain⟨M,hf⟩:=h.1 O;have T:r.es≠[]:=fun e=>by rw[e]at M;simp at M
    obtain⟨g',n',c',E,he,_⟩:=hr.els A T;rw[A]at E;injection E with F X Z;injection F with F;injection F with F;subst F;obtain⟨Y,e5⟩:=rJ _ 0 i he M;obtain⟨v,h1,_,h3⟩:=zS _ _ f e5 (by rw[Y];exact hf);refine⟨v,h3,fun w' J=>?_⟩;rw[<-hr.sz];rw[Nat.zero_add]at h1;simp[Instr.loadAt,Instr.sureAddr,xR U (J.cellOwn hk A h1)]
   | some m=>
    refine⟨_,h.2,fun O u I=>?_⟩;simp only[rep]at I;obtain⟨_,g,n,c,A,rfl⟩:=I;obtain⟨M,hf⟩:=h.1 O;have T:r.es≠[]:=fun e=>by rw[e]at M;simp at M
    obtain⟨g',n',c',E,he,_⟩:=hr.els A T;rw[A]at E;injection E with F X Z;injection F with F;injection F with F;subst F;obtain⟨Y,e5⟩:=rJ _ 0 i he M;obtain⟨l,F,X,Z,e6⟩:=lQ _ _ (wQ _ _ m (wG _ _ f e5));have hn:l.length=m:=by rw[F,List.length_take,List.length_drop,Y];omega
    refine⟨.agg l.toArray,by simp only[rep];exact⟨l,rfl,X,Z⟩,fun w' J=>?_⟩;rw[<-hn]at U;rw[<-hr.sz];rw[Nat.zero_add]at e6;simp[Instr.loadAt,Instr.sureAddr,vI U (fun j v hj=>J.cellOwn hk A (e6 j v hj))]
  ·exact h.elim
 ·exact h.elim
def nY{t:TypeId}(h:ldT P t=some none){l:List Value}{o:Nat}{u:Value}(A:l[o]?=some u):(part t l.toArray o).run P w=.ok u w:=by simp[part,qN h,A]
def Ia{t:TypeId}{n:Nat}(h:ldT P t=some (some n)){l:List Value}{o:Nat}:(part t l.toArray o).run P w=.ok (.agg ((l.drop o).take n).toArray) w:=by simp[part,qN h,tZ h,List.extract_eq_take_drop]
def Et{t:TypeId}{l:Option Nat}{x:AV}{off:Nat}(E:ldT P t=some l)(h:apart G off l x K):
  ∃z,K z/\(gt G->∀u,rep S w x u->∃cs:Array Value,u=.agg cs/\wX P S H w z (part t cs off)):=by
 unfold apart at h;split at h
 ·rename_i cs;cases l with
  | none=>refine⟨_,h.2,fun F u A=>?_⟩;simp only[rep]at A;obtain⟨l,rfl,h1,_⟩:=A;obtain⟨v,I,J⟩:=BT cs l off h1 (h.1 F);exact⟨_,rfl,v,J,fun w' _=>nY E I⟩
  | some n=>refine⟨_,h.2,fun F u A=>?_⟩;simp only[rep]at A;obtain⟨l,rfl,h1,M⟩:=A;refine⟨_,rfl,_,?_,fun w' _=>Ia E⟩;simp only[rep];exact⟨_,rfl,rH _ _ n (rK _ _ off h1),fun u A=>M u (List.mem_of_mem_drop (List.mem_of_mem_take A))⟩
 ·exact h.elim
def AW{t:TypeId}{f o:Nat}{l:Option Nat}(h:aK P t f=some (o,l)):
  ∃fs A i,P.underlying t=some (.struct fs)/\fs[f]?=some A/\A.offset=o/\P.info? A.type=some i/\i.size≠0/\ldT P A.type=some l:=by
 unfold aK at h;cases J:P.underlying t with
 | none=>simp[J]at h
 | some d=>
  cases d <;> simp only[J]at h <;> try (simp at h;done)
  rename_i fs;cases I:fs[f]? with
  | none=>simp[I]at h
  | some A=>
   simp only[I]at h;cases E:P.info? A.type with
   | none=>simp[E]at h
   | some i=>
    simp only[E]at h;split at h
    ·simp at h
    ·rename_i M;cases F:ldT P A.type with
     | none=>simp[F]at h
     | some l'=>simp[F]at h;obtain⟨rfl,rfl⟩:=h;exact⟨fs,A,i,rfl,I,rfl,E,M,F⟩
def Eo{t:TypeId}{f o:Nat}{l:Option Nat}(h:aK P t f=some (o,l))(b p:Nat)(w:World):
  (Instr.fieldAt t (.pointer (some ⟨b,p,none⟩)) f).run P w=.ok (.pointer (some ⟨b,p+o,none⟩)) w:=by
 obtain⟨fs,J,i,E,I,rfl,A,F,_⟩:=AW h;simp[Instr.fieldAt,run_underlying E,I,Instr.sureAddr,fieldPlace,sizeOf,typeInfo,A,F,Addr.add_lit]
def Do{t:TypeId}{f:Nat}{x:AV}(h:iQ P t f x K):
  ∃z,K z/\(gt G->∀u,rep S w x u->wX P S H w z (Instr.fieldAt t u f)):=by
 unfold iQ at h;split at h
 ·rename_i cs off;split at h
  ·rename_i o l E;refine⟨_,h,fun _ u A=>?_⟩;simp only[rep]at A;obtain⟨b,p,rfl,I,F⟩:=A;refine⟨_,?_,fun w' _=>Eo E b (p+off) w'⟩;simp only[rep];exact⟨b,p,by rw[Nat.add_assoc],I,F⟩
  ·exact h.elim
 ·rename_i k i g;split at h
  ·rename_i o l E;refine⟨_,h,fun _ u A=>?_⟩;simp only[rep]at A;obtain⟨h1,b,n,c,J,rfl⟩:=A;refine⟨_,?_,fun w' _=>Eo E b _ w'⟩;simp only[rep];exact⟨h1,b,n,c,J,by rw[Nat.add_assoc]⟩
  ·exact h.elim
 ·exact h.elim
def fB{t:TypeId}{e sz A:Nat}(h:bT P t=some (e,sz,A)):
  ∃i z,P.underlying t=some (.slice e)/\P.info? e=some i/\i.size=sz/\i.bytes=A/\0<sz/\0<A/\i.zero=some z/\z.cells.size=sz:=by
 unfold bT at h;cases M:P.underlying t with
 | none=>simp[M]at h
 | some d=>
  cases d <;> simp only[M]at h <;> try (simp at h;done)
  rename_i O;cases E:P.info? O with
  | none=>simp[E]at h
  | some i=>
   simp only[E]at h;split at h
   ·simp at h
   ·rename_i J;simp at h;obtain⟨rfl,rfl,rfl⟩:=h;simp only[not_or,ne_eq,Decidable.not_not]at J;obtain⟨h1,T,F⟩:=J;cases I:i.zero with
    | none=>simp[I]at F
    | some z=>simp[I]at F;exact⟨i,z,rfl,E,rfl,rfl,by omega,by omega,I,F⟩
def Iv{t:TypeId}{n s:Nat}{l:Option Nat}(h:Bc P t=some (n,s,l)):
  ∃e i,P.underlying t=some (.array n e)/\P.info? e=some i/\i.size=s/\s≠0/\ldT P e=some l:=by
 unfold Bc at h;cases F:P.underlying t with
 | none=>simp[F]at h
 | some d=>
  cases d <;> simp only[F]at h <;> try (simp at h;done)
  rename_i m e;cases A:P.info? e with
  | none=>simp[A]at h
  | some i=>
   simp only[A]at h;split at h
   ·simp at h
   ·rename_i I;cases E:ldT P e with
    | none=>simp[E]at h
    | some l'=>simp[E]at h;obtain⟨rfl,rfl,rfl⟩:=h;exact⟨e,i,rfl,A,rfl,I,E⟩
def rQ{t:TypeId}{e sz A:Nat}(h:bT P t=some (e,sz,A))(b o len cap:Nat)(k:IntKind)(i:Int)(h0:0<=i)(h1:i<len)(w:World):
  (Instr.indexAt t (.slice (some ⟨b,o,none⟩) len cap) (.int k i)).run P w=.ok (.pointer (some ⟨b,o+i.toNat*sz,none⟩)) w:=by
 obtain⟨E,z,I,F,rfl,_⟩:=fB h;simp[Instr.indexAt,run_underlying I,asIntOf,h0,h1,sizeOf,typeInfo,F,Addr.add_lit]
def xS{t:TypeId}{n s:Nat}{l:Option Nat}(h:Bc P t=some (n,s,l))(b o:Nat)(k:IntKind)(i:Int)(h0:0<=i)(h1:i<n)(w:World):
  (Instr.indexAt t (.pointer (some ⟨b,o,none⟩)) (.int k i)).run P w=.ok (.pointer (some ⟨b,o+i.toNat*s,none⟩)) w:=by
 obtain⟨e,A,F,E,rfl,_⟩:=Iv h;simp[Instr.indexAt,run_underlying F,asIntOf,h0,h1,Instr.sureAddr,sizeOf,typeInfo,E,Addr.add_lit]
def Dm{t:TypeId}{x i:AV}(hH:yK S w H)(h:dZ P G H t x i K):
  ∃z,K z/\(gt G->∀u v,rep S w x u->rep S w i v->wX P S H w z (Instr.indexAt t u v)):=by
 unfold dZ at h;split at h
 ·rename_i es k n;split at h
  ·rename_i e sz J T;refine⟨_,h.2,fun M u v I F=>?_⟩;obtain⟨⟨h0,h1⟩,U⟩:=h.1 M;simp only[rep]at I F;subst F;obtain⟨ad,m,c,rfl,e1,_,_,e2⟩:=I;rcases e2 with rfl|⟨b,o,ab,rfl,hb,_,Z⟩
   ·simp at h1;omega
   ·have E:n.toNat<es.length:=by omega
    obtain⟨e3,e4⟩:=rJ es o n.toNat Z E;have aa:ab=sz:=by rw[<-e3,U]
    subst aa;refine⟨_,?_,fun w' _=>rQ T b o m c k n h0 (by omega) w'⟩;simp only[rep];exact⟨b,_,by rw[Nat.add_zero],hb,e4⟩
  ·exact h.elim
 ·rename_i k X n;split at h
  ·rename_i r e sz J hk T;refine⟨_,h.2,fun M u v I F=>?_⟩;obtain⟨⟨h0,h1⟩,U⟩:=h.1 M;have hr:=hH k r hk;have ac:r.es≠[]:=fun e=>by rw[e]at h1;simp at h1;omega
   simp only[rep]at I F;subst F;obtain⟨E,rfl,_,_,_,O⟩:=I;obtain⟨g,m,c,A,_,hm⟩:=hr.els O ac;rw[A];refine⟨_,?_,fun w' _=>rQ T g 0 m c X n h0 (by omega) w'⟩;simp only[rep];exact⟨E,g,m,c,A,by rw[<-hr.sz,U];simp⟩
  ·exact h.elim
 ·rename_i k a b X n;split at h
  ·rename_i r e sz J hk T;refine⟨_,h.2,fun M u v I F=>?_⟩;obtain⟨⟨h0,h1⟩,U⟩:=h.1 M;have hr:=hH k r hk;simp only[rep]at I F;subst F;obtain⟨E,ad,m,c,ae,cc,A,rfl,ah,ag,Y,_,af,_⟩:=I;obtain⟨g,rfl,rfl⟩:=Y (by omega);refine⟨_,?_,fun w' _=>rQ T g (a*S.sz k) (b-a) cc X n h0 (by omega) w'⟩;simp only[rep];exact⟨E,g,m,c,A,by rw[<-U,hr.sz,Nat.add_mul,Nat.add_zero]⟩
  ·exact h.elim
 ·rename_i cs off k n;split at h
  ·rename_i m s l ha;refine⟨_,h.2,fun M u v I F=>?_⟩;obtain⟨h0,h1⟩:=h.1 M;simp only[rep]at I F;subst F;obtain⟨b,o,rfl,hb,hc⟩:=I;refine⟨_,?_,fun w' _=>xS ha b (o+off) k n h0 h1 w'⟩;simp only[rep];exact⟨b,o,by rw[Nat.add_assoc],hb,hc⟩
  ·exact h.elim
 ·rename_i k j f X n;split at h
  ·rename_i m s l ha;refine⟨_,h.2,fun M u v I F=>?_⟩;obtain⟨h0,h1⟩:=h.1 M;simp only[rep]at I F;subst F;obtain⟨E,g,n',c,A,rfl⟩:=I;refine⟨_,?_,fun w' _=>xS ha g _ X n h0 h1 w'⟩;simp only[rep];exact⟨E,g,n',c,A,by rw[Nat.add_assoc]⟩
  ·exact h.elim
 ·exact h.elim
def tL{t:TypeId}(h:cA P t=true):∃e,P.underlying t=some (.slice e):=by
 unfold cA at h;split at h
 ·rename_i e A;exact⟨e,A⟩
 ·simp at h
def fC{t:TypeId}(h:dN P t=true):P.underlying t=some .string:=by
 unfold dN at h;split at h
 ·rename_i A;exact A
 ·simp at h
def Wz{t:TypeId}(h:QN P t=true):∃e,P.underlying t=some (.pointer e):=by
 unfold QN at h;split at h
 ·rename_i e A;exact⟨e,A⟩
 ·simp at h
def Q7{t:TypeId}(h:AA P t=true):P.underlying t=some .bool:=by
 unfold AA at h;split at h
 ·rename_i A;exact A
 ·simp at h
def F2{t ty:TypeId}{x:AV}(T:yK S w H)(h:GG P H t x K):
  ∃z,K z/\(gt G->∀u,rep S w x u->wX P S H w z (Builtin.len_ #[t] ty #[u])):=by
 unfold GG at h;split at h
 ·rename_i es;split at h
  ·rename_i E;obtain⟨e,I⟩:=tL E;refine⟨_,h,fun _ u A=>?_⟩;simp only[rep]at A;obtain⟨ad,m,c,rfl,M,_⟩:=A;refine⟨_,kG,fun w' _=>?_⟩;simp[Builtin.len_,run_underlying I,goInt,M]
  ·exact h.elim
 ·rename_i k;split at h
  ·rename_i r U;split at h
   ·rename_i E;obtain⟨e,I⟩:=tL E;refine⟨_,h,fun _ u A=>?_⟩;simp only[rep]at A;obtain⟨_,rfl,_,_,_,F⟩:=A;obtain⟨xs,X,_⟩:=(T k r U).sl F;refine⟨_,kG,fun w' _=>?_⟩;rcases X.2 with⟨J,Y⟩|⟨g,cap,cur,J,_⟩
    ·simp[Builtin.len_,run_underlying I,goInt,J,Y]
    ·simp[Builtin.len_,run_underlying I,goInt,J]
   ·exact h.elim
  ·exact h.elim
 ·split at h
  ·rename_i E;obtain⟨e,I⟩:=tL E;refine⟨_,h,fun _ u A=>?_⟩;simp only[rep]at A;obtain⟨_,ad,n,c,O,Z,_,rfl,_⟩:=A;refine⟨_,kG,fun w' _=>?_⟩;simp[Builtin.len_,run_underlying I,goInt]
  ·exact h.elim
 ·rename_i s;split at h
  ·rename_i E;refine⟨_,h,fun _ u A=>?_⟩;simp only[rep]at A;subst A;refine⟨_,kG,fun w' _=>?_⟩;simp[Builtin.len_,run_underlying (fC E),goInt]
  ·exact h.elim
 ·exact h.elim
def FF{x y:AV}{tys:Array TypeId}{ty:TypeId}(h:Pd x y K):
  ∃z,K z/\(gt G->∀u v,rep S w x u->rep S w y v->wX P S H w z (Builtin.max_ tys ty #[u,v])):=by
 unfold Pd at h;split at h
 ·refine⟨_,h,fun _ u v E A=>?_⟩;simp only[rep]at E A;subst E;subst A;exact⟨_,kG,fun w' _=>by simp[Builtin.max_,Builtin.max2,lC]⟩
 ·exact h.elim
def He{x y:AV}{tys:Array TypeId}{ty:TypeId}(h:QA x y K):
  ∃z,K z/\(gt G->∀u v,rep S w x u->rep S w y v->wX P S H w z (Builtin.min_ tys ty #[u,v])):=by
 unfold QA at h;split at h
 ·refine⟨_,h,fun _ u v E A=>?_⟩;simp only[rep]at E A;subst E;subst A;exact⟨_,kG,fun w' _=>by simp[Builtin.min_,Builtin.min2,adU]⟩
 ·exact h.elim
end
end Go.Aw
end
section
namespace Go.Aw
open Go.RowKit
section
variable{P:Program}{S:Sg}{H:aH}{w:World}{G:Option Bool}{K:AV->Prop}
def gE{z:AV}{e:Sem Value}{v:Value}(A:rep S w z v)(h:∀w',e.run P w'=.ok v w'):wX P S H w z e:=⟨v,A,fun w' _=>h w'⟩
def lE{t:TypeId}{c:Nat}(h:tC P t=some c):(c=0/\∃k,P.underlying t=some (.int k))\/(c=1/\P.underlying t=some .string)\/(c=2/\P.underlying t=some .bool):=by unfold tC at h;split at h <;> simp_all
def Tg{t:TypeId}{c:Nat}(h:tC P t=some c)(A:(P.info? t).isSome=true):ldT P t=some none:=by obtain⟨i,A⟩:=Option.isSome_iff_exists.1 A;unfold ldT;rw[A];rcases lE h with⟨_,k,hk⟩|⟨_,hk⟩|⟨_,hk⟩ <;> rw[hk]
def uY{t:TypeId}{c:Nat}{x y:AV}{u v:Value}{b:Bool}{d:Nat}(J:tC P t=some c)(h:uI c x y=some b)(F:rep S w x u)(E:rep S w y v)(w':World):
  (Op.equalIn (d+1) t u v).run P w'=.ok b w':=by
 unfold uI at h;split at h
 ·split at h
  ·simp only[rep]at F E;subst F E;rename_i I;subst I;simp at h;rcases lE J with⟨_,k',A⟩|⟨h0,_⟩|⟨h0,_⟩
   ·rw[run_equalIn_int w' d t _ k' _ _ A,h]
   ·simp at h0
   ·simp at h0
  ·simp at h
 ·simp only[rep]at F E;subst F E;rcases lE J with⟨h0,_⟩|⟨_,A⟩|⟨h0,_⟩
  ·simp at h0
  ·rw[run_equalIn_string w' d t _ _ A];injection h with h;rw[h]
  ·simp at h0
 ·simp only[rep]at F E;subst F E;rcases lE J with⟨h0,_⟩|⟨h0,_⟩|⟨_,A⟩
  ·simp at h0
  ·simp at h0
  ·rw[run_equalIn_bool' w' d t _ _ A];injection h with h;rw[h]
 ·simp at h
def tE:∀(fs:List Field) (l:List Nat) (xs ys:List AV) (o:Nat) (us vs pu pv:List Value) (b:Bool) (d:Nat),
  oP P o fs=some l->iF l xs ys=some b->bC S w xs us->bC S w ys vs->pu.length=o->pv.length=o->∀w':World,
  (Op.eqFields (d+1) (pu++us).toArray (pv++vs).toArray fs).run P w'=.ok b w'
 | [],l,xs,ys,o,us,vs,pu,pv,b,d,A,he,_,_,_,_,w'=>by simp only[oP]at A;injection A with A;subst A;cases xs <;> cases ys <;> simp[iF]at he;subst he;simp[Op.eqFields]
 | f::fs,l,xs,ys,o,us,vs,pu,pv,b,d,A,he,hx,hy,e1,e2,w'=>by
  simp only[oP]at A;split at A
  ·rename_i Y;simp only[Bool.and_eq_true,bne_iff_ne,ne_eq,beq_iff_eq]at Y;obtain⟨⟨hn,Z⟩,hi⟩:=Y;cases M:tC P f.type with
   | none=>simp[M]at A
   | some c=>
    cases T:oP P (o+1) fs with
    | none=>simp[M,T]at A
    | some l'=>
     simp[M,T]at A;subst A;cases xs with
     | nil=>simp[iF]at he
     | cons x xs=>
      cases ys with
      | nil=>simp[iF]at he
      | cons y ys=>
       simp only[iF]at he;cases E:uI c x y with
       | none=>simp[E,Nm]at he
       | some b1=>
        cases F:iF l' xs ys with
        | none=>simp[E,F,Nm]at he
        | some b2=>
         simp[E,F,Nm]at he;simp only[bC]at hx hy;obtain⟨u,I,rfl,hu,U⟩:=hx;obtain⟨v,O,rfl,hv,X⟩:=hy;have J:=Tg M hi;have p1:∀w':World,(part f.type (pu++u::I).toArray f.offset).run P w'=.ok u w':=fun w'=>nY (w:=w') J (by rw[Z,<-e1];simp)
         have p2:∀w':World,(part f.type (pv++v::O).toArray f.offset).run P w'=.ok v w':=fun w'=>nY (w:=w') J (by rw[Z,<-e2];simp)
         have q:=uY (d:=d) M E hu hv;have ih:=tE fs l' xs ys (o+1) I O (pu++[u]) (pv++[v]) b2 d T F U X (by simp[e1]) (by simp[e2]) w';simp only[List.append_assoc,List.singleton_append]at ih;simp only[Op.eqFields,hn,ne_eq,not_false_eq_true,if_true,Sem.run_bind,p1,p2,q,Result.andThen_ok,Sem.run_ite];subst he;cases b1
         ·simp
         ·simp only[Bool.not_true,Bool.false_eq_true,if_false,Bool.true_and];exact ih
  ·simp at A
def Cy{e:TypeId}{c:Nat}(T:tC P e=some c)(U:(P.info? e).isSome=true){d:Nat}:∀(m i:Nat) (xs ys:List AV) (us vs pu pv:List Value) (b:Bool),
   iF (List.replicate m c) xs ys=some b->bC S w xs us->bC S w ys vs->pu.length=i->pv.length=i->∀w':World,
   ((forIn (m := Sem) (List.range' i m) ((none, ()) : Option Bool × Unit) (fun i _ => do
         if !(<-Op.equalIn (d+1) e (<-part e (pu++us).toArray (i*1)) (<-part e (pv++vs).toArray (i*1)))then pure (ForInStep.done (some false,()))
         else pure (ForInStep.yield (none,())))).run P w').andThen (fun r w'=>Sem.run P (match r.1 with
       | some x=>pure x
       | none=>pure true:Sem Bool) w')=.ok b w'
 | 0,i,xs,ys,us,vs,pu,pv,b,he,_,_,_,_,w'=>by cases xs <;> cases ys <;> simp[iF]at he;subst he;simp
 | m+1,i,xs,ys,us,vs,pu,pv,b,he,hx,hy,e1,e2,w'=>by
   rw[List.replicate_succ]at he;cases xs with
   | nil=>simp[iF]at he
   | cons x xs=>
     cases ys with
     | nil=>simp[iF]at he
     | cons y ys=>
       simp only[iF]at he;cases A:uI c x y with
       | none=>simp[A,Nm]at he
       | some b1=>
         cases E:iF (List.replicate m c) xs ys with
         | none=>simp[A,E,Nm]at he
         | some b2=>
           simp[A,E,Nm]at he;simp only[bC]at hx hy;obtain⟨u,F,rfl,hu,M⟩:=hx;obtain⟨v,J,rfl,Z,O⟩:=hy;have I:=Tg T U;have X:∀w':World,(part e (pu++u::F).toArray (i*1)).run P w'=.ok u w':=fun w'=>nY (w:=w') I (by rw[Nat.mul_one,<-e1];simp)
           have Y:∀w':World,(part e (pv++v::J).toArray (i*1)).run P w'=.ok v w':=fun w'=>nY (w:=w') I (by rw[Nat.mul_one,<-e2];simp)
           have q:=uY (d:=d) T A hu Z;have ih:=Cy T U (d:=d) m (i+1) xs ys F J (pu++[u]) (pv++[v]) b2 E M O (by simp[e1]) (by simp[e2]) w';simp only[List.append_assoc,List.singleton_append]at ih;simp only[List.range'_succ,List.forIn_cons,Sem.run_bind,X,Y,q,Result.andThen_ok,Sem.run_ite,bind_assoc];subst he;cases b1
           . simp
           . simp only[Bool.not_true,Bool.false_eq_true,if_false,Bool.true_and,Sem.run_pure,Result.andThen_ok];exact ih
def De{t:TypeId}{l:List Nat}(h:AO P t=some l){xs F:List AV}{b:Bool}(T:iF l xs F=some b){us vs:List Value}
  (X:bC S w xs us) (Y:bC S w F vs) (d:Nat) (w':World):(Op.equalIn (d+2) t (.agg us.toArray) (.agg vs.toArray)).run P w'=.ok b w':=by
 unfold AO at h;split at h
 ·rename_i fs J;split at h
  ·rename_i I;have U:P.fieldsOf t=fs:=by unfold Program.fieldsOf;rw[J]
   rw[run_equalIn_struct w' (d+1) t _ _ (by rw[U];exact J) I.1,U];simpa using tE fs.toList l xs F 0 us vs [] [] b d h T X Y rfl rfl w'
  ·simp at h
 ·rename_i n e J;split at h
  ·rename_i I;cases O:tC P e with
   | none=>simp[O]at h
   | some c=>
    simp[O]at h;subst h;cases E:P.info? e with
    | none=>simp[E]at I
    | some i=>
     have M:i.size=1:=by simpa[E]using I.1
     have A:=Cy (P:=P) (S:=S) (w:=w) O (by simp[E]) (d:=d) n 0 xs F us vs [] [] b T X Y rfl rfl w';simp only[List.nil_append]at A;rw[Op.equalIn];simp only[Sem.run_bind,run_underlying J,Result.andThen_ok,sizeOf,typeInfo,run_program,E,Sem.run_pure,M];rw[Std.Legacy.Range.forIn_eq_forIn_range'];simp only[Std.Legacy.Range.size,Nat.sub_zero,Nat.add_one_sub_one,Nat.div_one];have e:∀(r:Result (Option Bool×Unit)) (f g:Option Bool×Unit->World->Result Bool),(∀a w,f a w=g a w)->r.andThen f=r.andThen g:=fun r f g h=>by cases r <;> simp[Result.andThen,h]
     exact(e _ _ _ (fun a w=>by rcases a with⟨a,_⟩;cases a <;> rfl)).trans A
  ·simp at h
 ·simp at h
def gG(op:BinOp)(t:TypeId)(x y:Operand)(a b:Value)(h1:a≠.nilIface)(A:∀cs,a≠.agg cs)(w':World):(eqGuard op t x y a b).run P w'=.ok () w':=by cases op <;> simp only[eqGuard] <;> (try rfl) <;> cases a <;> first|rfl|(exact absurd rfl h1)|(exact absurd rfl (A _))
def QI{t:TypeId}{l:List Nat}(h:AO P t=some l):P.eqGuardType P.depth t=false:=by
 unfold AO at h;split at h
 ·split at h
  ·rename_i A;exact A.2
  ·simp at h
 ·split at h
  ·rename_i A;exact A.2
  ·simp at h
 ·simp at h
def Qy{op:BinOp}{t:TypeId}{x y:AV}(h:gZ P G op t x y K):
   ∃z,K z/\(gt G->∀u v,rep S w x u->rep S w y v->∀J I,wX P S H w z (do eqGuard op t J I u v;binOp op t u v)):=by
 unfold gZ at h;split at h
 . rename_i k a k' b;split at h
   . rename_i aa;refine⟨_,h.2,fun O u v A F J I=>?_⟩;have M:=h.1 O;simp only[rep]at A F;subst A F;refine gE kG fun w'=>?_
     simp only[Sem.run_bind,gG op t J I (.int k a) (.int k' b) (by simp) (by simp) w',Result.andThen_ok];have X:¬b<0:=by omega
     cases op <;> simp only[xV,Bool.false_eq_true]at aa <;> simp[binOp,Op.shift,X,shV]
   split at h
   . rename_i hk;subst hk;have E:∀(z:Value),(∀w',(binOp op t (.int k a) (.int k b)).run P w'=.ok z w')->∀u v,rep S w (.v (.int k a)) u->rep S w (.v (.int k b)) v->∀J I,wX P S H w (.v z) (do eqGuard op t J I u v;binOp op t u v):=by
       intro z Z u v A F J I;simp only[rep]at A F;subst A F;refine gE kG fun w'=>?_
       simp only[Sem.run_bind,gG op t J I (.int k a) (.int k b) (by simp) (by simp) w',Result.andThen_ok,Z]
     cases op <;> simp only at h <;> first
       | exact h.elim
       | (refine ⟨_, h, fun _ => E _ (fun w' => ?_)⟩
          first
            | (simp[binOp,Op.intArith,Op.intCmp];done)
            | (simp[binOp];rfl))
       | exact⟨_,h.2,fun O=>E _ (fun w'=>by simp[binOp,Op.intDiv,h.1 O])⟩
   . exact h.elim
 . rename_i a b;have E:∀(z:Value),(∀w',(binOp op t (.string a) (.string b)).run P w'=.ok z w')->∀u v,rep S w (.v (.string a)) u->rep S w (.v (.string b)) v->∀J I,wX P S H w (.v z) (do eqGuard op t J I u v;binOp op t u v):=by
     intro z Z u v A F J I;simp only[rep]at A F;subst A F;refine gE kG fun w'=>?_
     simp only[Sem.run_bind,gG op t J I (.string a) (.string b) (by simp) (by simp) w',Result.andThen_ok,Z]
   cases op <;> simp only at h <;> first
     | exact h.elim
     | exact⟨_,h,fun _=>E _ (fun w'=>by simp[binOp,Op.stringOp])⟩
     | exact ⟨_, h.2, fun O => E _ (fun w' => by
         have:=h.1 O;have h2:¬((a.size+b.size:Nat):Int)>IntKind.i64.max:=by omega
         simp only[binOp,Op.stringOp];rw[if_neg h2];rfl)⟩
 . rename_i a b;split at h
   . rename_i M;have T:=Q7 M;cases op <;> simp only at h <;> first
       | exact h.elim
       | (refine ⟨_, h, fun _ u v A F J I => ?_⟩
          simp only[rep]at A F;subst A F;refine gE kG fun w'=>?_
          simp only[Sem.run_bind,gG _ t J I (.bool a) (.bool b) (by simp) (by simp) w',Result.andThen_ok];simp[binOp,run_equal_bool w' t a b T])
   . exact h.elim
 . rename_i xs ys;split at h
   . rename_i l hl;split at h
     . rename_i b M;cases op <;> simp only at h <;> first
         | exact h.elim
         | (refine ⟨_, h, fun _ u v A F J I => ?_⟩
            simp only[rep]at A F;obtain⟨us,rfl,U,_⟩:=A;obtain⟨vs,rfl,Y,_⟩:=F;refine gE kG fun w'=>?_
            have q:=De hl M U Y 9998 w';simp only[Sem.run_bind,run_eqGuard_agg _ _ _ _ _ _ _ (QI hl),Result.andThen_ok]
            first
              | (rw[run_eql_struct,q];rfl)
              | (rw[run_neq_struct,q];rfl))
     . exact h.elim
   . exact h.elim
 . skip
   split at h
   . rename_i b M;split at h
     . rename_i hp;obtain⟨e,T⟩:=Wz hp;have hq:∀u,rep S w x u->∃a,u=.pointer a/\a.isNone=b:=by
         intro u A;unfold PS at M;split at M
         . simp only[rep]at A;exact⟨_,A,by simpa using M⟩
         . simp only[rep]at A;obtain⟨g,o,e,_⟩:=A;exact⟨_,e,by simpa using M⟩
         . simp only[rep]at A;obtain⟨_,g,n,c,_,e⟩:=A;exact⟨_,e,by simpa using M⟩
         . cases M
       have he:∀(a:Option Addr) w',(Op.equal t (.pointer a) (.pointer none)).run P w'=.ok a.isNone w':=by intro a w';have e0:Op.equal t (.pointer a) (.pointer none)=Op.equalIn (9999+1) t (.pointer a) (.pointer none):=rfl;rw[e0];unfold Op.equalIn;cases a <;> simp[run_underlying T]
       cases op <;> simp only at h <;> first
         | exact h.elim
         | (refine ⟨_, h, fun _ u v A F J I => ?_⟩
            obtain⟨a,rfl,rfl⟩:=hq u A;simp only[rep]at F;subst F;refine gE kG fun w'=>?_
            simp only[Sem.run_bind,gG _ t J I (.pointer a) (.pointer none) (by simp) (by simp) w',Result.andThen_ok];simp[binOp,he])
     . exact h.elim
   . exact⟨_,h.2,fun O=>(h.1 O).elim⟩
 . exact⟨_,h.2,fun O=>(h.1 O).elim⟩
end
end Go.Aw
end
section
namespace Go.Aw
open Go.RowKit
section
variable{P:Program}{S:Sg}{H:aH}{w:World}{G:Option Bool}{K:AV->Prop}
def gL{n:Nat}:∀{l:List (List AV)},cH n l↔∀cs∈l,cs.length=n
 | []=>by simp[cH]
 | x::r=>by simp[cH,gL (l:=r)]
def Bt{α:Type}{n:Nat}{f:α->List AV}(h:∀x,(f x).length=n)(l:List α):cH n (l.map f):=gL.2 fun cs A=>by obtain⟨x,_,rfl⟩:=List.mem_map.1 A;exact h x
def Yt{b:Bool}{u:Value}(h:rep S w (.v (.bool b)) u):u=.bool b:=by simpa only[rep]using h
def sP{c:Bool}{x y:AV}{u v:Value}(A:c=true->rep S w x u)(E:c=false->rep S w y v):rep S w (xO c x y) (if c then u else v):=by
 unfold xO;split
 ·cases c
  ·have:=E rfl;simp only[rep]at this |-;subst this;simp
  ·have:=A rfl;simp only[rep]at this |-;subst this;simp
 ·cases c
  ·have:=E rfl;simp only[rep]at this |-;subst this;simp
  ·have:=A rfl;simp only[rep]at this |-;subst this;simp
 ·cases c
  ·have:=E rfl;simp only[rep]at this |-;subst this;simp
  ·have:=A rfl;simp only[rep]at this |-;subst this;simp
 ·cases c
  ·simpa using E rfl
  ·simpa using A rfl
def Oh{c:Bool}{x y:AV}(h:AI G c x y K):
  ∃z,K z/\(gt G->∀u v,rep S w x u->rep S w y v->rep S w z (if c then u else v)):=by
 unfold AI at h;split at h
 ·refine⟨_,h.2.2,fun I u v E A=>sP (fun F=>?_) (fun F=>?_)⟩
  ·simp only[rep]at E;exact E.1 (h.1 I F)
  ·simp only[rep]at A;exact A.1 (h.2.1 I F)
 ·refine⟨_,h.2,fun I u v E A=>sP (fun F=>?_) (fun _=>A)⟩;simp only[rep]at E;exact E.1 (h.1 I F)
 ·refine⟨_,h.2,fun I u v E A=>sP (fun _=>E) (fun F=>?_)⟩;simp only[rep]at A;exact A.1 (h.1 I F)
 ·exact⟨_,h,fun _ u v E A=>sP (fun _=>E) (fun _=>A)⟩
def H5{v:Value}(h:v.oneCell'=true):v.cells=#[v]:=by cases v <;> first|rfl|simp[Value.oneCell']at h
def wD{x:AV}{K:List AV->Prop}(h:mB x K):∃cs,K cs/\∀u,rep S w x u->∃l:List Value,u.cells=l.toArray/\bC S w cs l/\(∀v∈l,v.oneCell'=true):=by
 have E:∀(x:AV) (u:Value),rep S w x u->u.oneCell'=true->∃l:List Value,u.cells=l.toArray/\bC S w [x] l/\(∀v∈l,v.oneCell'=true):=fun x u A h1=>⟨[u],H5 h1,by simp only[bC];exact⟨u,[],rfl,A,rfl⟩,by simpa using h1⟩
 unfold mB at h;split at h
 ·refine⟨_,h,fun u A=>?_⟩;simp only[rep]at A;obtain⟨l,rfl,h1,F⟩:=A;exact⟨l,rfl,h1,F⟩
 ·refine⟨_,h.2,fun u A=>E _ u A ?_⟩;simp only[rep]at A;subst A;exact h.1
 ·refine⟨_,h,fun u A=>E _ u A ?_⟩;simp only[rep]at A;obtain⟨_,_,_,rfl,_⟩:=A;rfl
 ·refine⟨_,h,fun u A=>E _ u A ?_⟩;simp only[rep]at A;obtain⟨_,_,rfl,_⟩:=A;rfl
 ·refine⟨_,h,fun u A=>E _ u A ?_⟩;simp only[rep]at A;obtain⟨_,_,_,_,_,rfl⟩:=A;rfl
 ·refine⟨_,h,fun u A=>E _ u A ?_⟩;simp only[rep]at A;obtain⟨_,_,_,_,_,rfl⟩:=A;rfl
 ·exact h.elim
def Dq(v:Value):rep S w (pQ v) v:=by
 unfold pQ;split
 ·unfold rep;exact⟨none,0,0,rfl,rfl,Nat.le_refl _,Nat.zero_le _,.inl rfl⟩
 ·exact kG
def lS:∀(l:List Value),bC S w (l.map pQ) l
 | []=>by simp[bC]
 | v::r=>by simp only[List.map_cons,bC];exact⟨v,r,rfl,Dq v,lS r⟩
def C1:∀(l:List Value) (i:Nat) (A:Array Value) (o:Nat),o+i+l.length<=A.size ->
  ((l.zipIdx i).foldl (fun cs (p:Value×Nat)=>cs.setIfInBounds (o+p.2) p.1) A).toList=A.toList.take (o+i)++l++A.toList.drop (o+i+l.length)
 | [],i,A,o,h=>by simp
 | v::r,i,A,o,h=>by
  simp only[List.zipIdx_cons,List.foldl_cons,List.length_cons]at h |-;rw[C1 r (i+1) _ o (by simp;omega)];have F:(A.setIfInBounds (o+i) v).toList=A.toList.set (o+i) v:=by simp
  rw[F,show o+(i+1)=o+i+1 by omega,List.take_set,List.drop_set_of_lt (by omega)];have E:o+i<A.toList.length:=by simp;omega
  have I:(List.take (o+i+1) A.toList).set (o+i) v=List.take (o+i) A.toList++[v]:=by
   rw[List.take_succ_eq_append_getElem E,List.set_append_right _ _ (by simp;omega)];have:(List.take (o+i) A.toList).length=o+i:=by rw[List.length_take];omega
   rw[this,Nat.sub_self];rfl
  rw[I];simp only[List.append_assoc,List.singleton_append,List.cons_append,List.nil_append];rw[show o+i+1+r.length=o+i+(r.length+1)by omega]
def zD{places:List (Nat×Nat)}{place:Nat->Option (Nat×Nat)}(O:∀i Y,places[i]?=some Y->place i=some Y):∀(E:List (Nat×List AV)) (vs:List (Nat×Value)) (cs:List AV) (A:Array Value) (cs':List AV),
  qC places cs E=some cs'->bC S w cs A.toList->(∀v∈A.toList,v.oneCell'=true) ->
  E.length=vs.length->(∀(j i:Nat) (c:List AV),E[j]?=some (i,c)->∃(v:Value) (l:List Value),vs[j]?=some (i,v)/\v.cells=List.toArray l/\bC S w c l/\∀u∈l,u.oneCell'=true) ->
  ∃U,Instr.fill place A vs=some U/\bC S w cs' U.toList/\(∀v∈U.toList,v.oneCell'=true)
 | [],vs,cs,A,cs',F,hr,h1,hl,_=>by simp only[qC]at F;injection F with F;subst F;have:vs=[]:=List.eq_nil_of_length_eq_zero (by simpa using hl.symm);subst this;exact⟨A,rfl,hr,h1⟩
 | (i,c)::rest,vs,cs,A,cs',F,hr,h1,hl,hv=>by
  obtain⟨v,l,Z,e2,e3,e4⟩:=hv 0 i c (by simp);cases vs with
  | nil=>simp at Z
  | cons q vs=>
   simp at Z;subst Z;simp only[qC]at F;cases hp:places[i]? with
   | none=>simp[hp]at F
   | some Y=>
    obtain⟨off,n⟩:=Y;simp only[hp]at F;split at F
    ·rename_i hc;have M:l.length=n:=by rw[<-hc.1];exact fS _ _ e3
     have hA:A.toList.length=cs.length:=fS _ _ hr;have X:A.size=cs.length:=by simpa using hA
     have hz:=C1 l 0 A off (by rw[M,X];have:=hc.2;omega);simp only[Nat.add_zero]at hz;have I:bC S w (cs.take off++c++cs.drop (off+n)) (A.toList.take off++l++A.toList.drop (off+l.length)):=by rw[M];exact cR _ _ _ _ (cR _ _ _ _ (rH _ _ _ hr) e3) (rK _ _ _ hr)
     have T:∀u∈A.toList.take off++l++A.toList.drop (off+l.length),u.oneCell'=true:=by
      intro u J;simp only[List.mem_append]at J;rcases J with(J|J)|J
      ·exact h1 u (List.mem_of_mem_take J)
      ·exact e4 u J
      ·exact h1 u (List.mem_of_mem_drop J)
     rw[<-hz]at I T;obtain⟨U,f1,f2,f3⟩:=zD O rest vs _ _ cs' F I T (by simpa using hl) (fun j i c hj=>by simpa using hv (j+1) i c (by simpa using hj));refine⟨U,?_,f2,f3⟩;simp only[Instr.fill,O i _ hp,e2,List.size_toArray,M];rw[if_neg (by have:=hc.2;simp[X];omega)];rw[<-f1]
     congr 1
     rw[<-Array.foldl_toList];simp
    ·simp at F
def mT{t:TypeId}{z:List AV}(h:cV P t=some z):∃i v,P.info? t=some i/\i.zero=some v/\z=v.cells.toList.map pQ/\v.cells.size=i.size/\i.size≠0/\(∀u∈v.cells.toList,u.oneCell'=true):=by
 unfold cV at h;cases A:P.info? t with
 | none=>simp[A]at h
 | some i=>
  cases F:i.zero with
  | none=>simp[A,F]at h
  | some v=>
   simp only[A,F]at h;split at h
   ·rename_i E;injection h with h;exact⟨i,v,rfl,F,h.symm,E.1,E.2.1,fun u I=>List.all_eq_true.1 E.2.2 u I⟩
   ·simp at h
def aU{x:AV}{k:AV->Prop}(h:bR G x k):∃y,k y/\(gt G->∀u,rep S w x u->rep S w y u):=by
 unfold bR at h;split at h
 ·refine⟨_,h.2,fun E u A=>?_⟩;simp only[rep]at A;refine A.1 ?_;have:=h.1;cases G with
  | none=>exact this
  | some b=>exact this E
 ·exact⟨_,h,fun _ u A=>A⟩
def U2{op:UnOp}{x:AV}(h:aun op x K):∃z,K z/\∀u,rep S w x u->wX P S H w z (Op.unary op u):=by
 unfold aun at h;split at h
 ·refine⟨_,h,fun u A=>?_⟩;simp only[rep]at A;subst A;exact gE kG fun w'=>by simp[Op.unary]
 ·refine⟨_,h,fun u A=>?_⟩;simp only[rep]at A;subst A;exact gE kG fun w'=>by simp[Op.unary,Op.intArith]
 ·exact h.elim
def I5{t:TypeId}{k:IntKind}(h:Fq P t=some k):P.underlying t=some (.int k):=by
 unfold Fq at h;split at h
 ·rename_i A;injection h with h;subst h;exact A
 ·simp at h
def MN{t:TypeId}(h:CP P t=true):∃e,P.underlying t=some (.slice e)/\P.underlying e=some (.int .u8):=by
 unfold CP at h;split at h
 ·rename_i e E;split at h
  ·rename_i A;exact⟨e,E,A⟩
  ·simp at h
 ·simp at h
def Fm:∀(es:List (List AV)) (ns:List Int) (o:Nat) {b sz:Nat},uH es=some ns->gI S w b sz o es->0<sz->ns.length=es.length/\∀j n,ns[j]?=some n->w.cell? ⟨b,o+j,none⟩=some (.int .u8 n)
 | [],ns,o,b,sz,h,_,_=>by simp only[uH]at h;injection h with h;subst h;simp
 | es::r,ns,o,b,sz,h,he,hs=>by
  unfold uH at h;split at h
  ·rename_i e;simp at e
  ·rename_i n r' e;injection e with O U;subst O U;cases A:uH r with
   | none=>simp[A]at h
   | some ns'=>
    simp[A]at h;subst h;simp only[gI,cM]at he;obtain⟨h1,⟨⟨u,X,_,I⟩,_⟩,J⟩:=he;simp only[rep]at I;subst I;have E:sz=1:=by simpa using h1.symm
    subst E;obtain⟨T,M⟩:=Fm r ns' (o+1) A J hs;refine⟨by simp[T],fun j m F=>?_⟩;cases j with
    | zero=>simp at F;subst F;simpa using X
    | succ j=>rw[show o+(j+1)=o+1+j by omega];exact M j m (by simpa using F)
  ·simp at h
def Nx{src dst:TypeId}{x:AV}(h:xL P src dst x K):∃z,K z/\∀u,rep S w x u->wX P S H w z (convert src dst u):=by
 unfold xL at h;split at h
 ·split at h
  ·rename_i k k' hk Y;refine⟨_,h,fun u I=>?_⟩;simp only[rep]at I;subst I;refine gE kG fun w'=>?_
   simp[convert,run_underlying (I5 hk),run_underlying (I5 Y),Conv.intToInt]
  ·exact h.elim
 ·split at h
  ·rename_i M;refine⟨_,h,fun u I=>?_⟩;simp only[rep]at I;subst I;refine gE kG fun w'=>?_
   simp[convert,run_underlying (fC M.1),run_underlying (fC M.2)]
  ·exact h.elim
 ·rename_i es;split at h
  ·rename_i M;split at h
   ·rename_i ns J;refine⟨_,h,fun u I=>?_⟩;obtain⟨e,Z,O⟩:=MN M.1;have hd:=fC M.2;simp only[rep]at I;obtain⟨ad,n,c,rfl,h1,_,_,A⟩:=I;refine⟨_,kG,fun w' ha=>?_⟩;have E:es=[]->ns=[]:=fun e=>by subst e;simp[uH]at J;exact J
    cases ad with
    | none=>
     have:es=[]:=by rcases A with A|⟨b,o,sz,A,_⟩;exact A;simp at A
     rw[run_convert_bytes_nil w' src e Z O n c dst hd,E this];rfl
    | some a=>
     have F:(loadCells a n).run P w'=.ok (ns.map (Value.int .u8)).toArray w':=by
      rcases A with A|⟨b,o,sz,A,hb,U,T⟩
      ·have X:n=0:=by rw[<-h1,A];rfl
       rw[X,E A];simp[loadCells,loadCellsFrom]
      ·injection A with A;subst A;obtain⟨i1,i2⟩:=Fm es ns o J T U;have X:n=(ns.map (Value.int .u8)).length:=by rw[List.length_map,i1,h1]
       rw[X];refine run_loadCells_list w' _ _ fun j v hj=>?_
       rw[Addr.add_lit];simp at hj;obtain⟨m,hm,rfl⟩:=hj;exact ha.cell hb (i2 j m hm)
     rw[run_convert_bytes_string w' src dst e _ n c Z O hd,run_bytesToString w' a n c ns F,foldl_push_bytes]
     congr 3
     simp[ByteArray.empty,ByteArray.emptyWithCapacity];rfl
   ·exact h.elim
  ·exact h.elim
 ·exact h.elim
def Dw{t:TypeId}{e sz A:Nat}(J:bT P t=some (e,sz,A)):P.underlying t=some (.slice (P.elem t))/\∀w:World,(sizeOf (P.elem t)).run P w=.ok sz w:=by
 obtain⟨i,z,F,I,E,_⟩:=fB J;have:P.elem t=e:=by unfold Program.elem;rw[F]
 rw[this];exact⟨F,fun w=>by simp[sizeOf,typeInfo,I,E]⟩
def DT{t:TypeId}{x a b:AV}(h:Eg P G t x a b K):
  ∃z,K z/\(gt G->∀(u E I:Value),rep S w x u->rep S w a E->rep S w b I->wX P S H w z (Instr.sliceAt t u none (some E) (some I))):=by
 unfold Eg at h;split at h
 ·rename_i es ka a kb b;split at h
  ·rename_i e X;refine⟨_,h.2,fun hg u E I T h1 O=>?_⟩;obtain⟨U,Y⟩:=h.1 hg;simp only[rep]at T h1 O;subst h1 O U Y;obtain⟨ad,n,c,rfl,rfl,Z,hm,J⟩:=T;obtain⟨A,M⟩:=Dw (P:=P) (t:=t) (by rw[X]);refine⟨.slice ad es.length es.length,?_,fun w' _=>?_⟩
   ·simp only[rep];exact⟨ad,_,rfl,rfl,by omega,J⟩
   ·rw[run_sliceAt_slice w' t _ _ _ _ A];have F:(es.length:Int)<=(c:Int):=by exact_mod_cast Z
    rcases J with rfl|⟨bb,o,sz,rfl,_⟩
    ·simp[Instr.slice,run_underlying A,Instr.sliceBounds,Instr.sliceBound,asIntOf,M]
    ·simp[Instr.slice,run_underlying A,Instr.sliceBounds,Instr.sliceBound,asIntOf,M,F,Addr.add];intro aa;omega
  ·exact h.elim
 ·exact h.elim
def Fz{es:List (List AV)}{ad:Option Addr}{n c sz a b:Nat}(Y:rep S w (.sl es) (.slice ad n c))(I:cH sz es)(ab:a<=b)(hb:b<=es.length):
  rep S w (.sl ((es.take b).drop a)) (sliced ad a b c sz):=by
 simp only[rep]at Y |-;obtain⟨Z,n',c',e,h1,h2,h3,M⟩:=Y;injection e with T X e3;subst T X e3;refine⟨_,_,_,rfl,by simp;omega,by omega,by omega,?_⟩;by_cases A:(es.take b).drop a=[]
 ·exact .inl A
 ·refine .inr ?_;rcases M with M|⟨bl,o,F,rfl,J,hs,E⟩
  ·subst M;simp at A
  ·have O : 0 < es.length := by
    rcases Nat.eq_zero_or_pos es.length with h0|h0
    ·have:=List.eq_nil_of_length_eq_zero h0;subst this;simp at A
    ·exact h0
   have U:F=sz:=by have T:=(rJ es o 0 E O).1;have X:=gL.1 I (es.getD 0 []) (by simp only[List.getD,List.getElem?_eq_getElem O,Option.getD_some];exact List.getElem_mem O);rw[<-T,X]
   subst U;have aa:a<b:=by
    rcases Nat.lt_or_ge a b with h|h
    ·exact h
    ·exact absurd (List.drop_eq_nil_of_le (by simp;omega)) A
   refine⟨bl,o+a*F,F,?_,J,hs,?_⟩
   ·split
    ·omega
    ·simp[Addr.add_lit]
   ·exact BE _ o a (xB es o b E)
def Lv{t:TypeId}{x:AV}{lo hi:Option AV}(h:lY P G t x lo hi K):
  ∃z,K z/\(gt G->∀(u:Value) (X U:Option Value),rep S w x u->(∀y,lo=some y->∃v,X=some v/\rep S w y v)->(lo=none->X=none)->(∀y,hi=some y->∃v,U=some v/\rep S w y v)->(hi=none->U=none) ->
   wX P S H w z (Instr.sliceAt t u X U none)):=by
 unfold lY at h;split at h
 ·rename_i es Y a Z b;split at h
  ·rename_i e sz aa he;refine⟨_,h.2,fun T u X U F J _ O _=>?_⟩;obtain⟨⟨h0,h1,h2⟩,h3⟩:=h.1 T;obtain⟨v,rfl,E⟩:=J _ rfl;obtain⟨v',rfl,M⟩:=O _ rfl;simp only[rep]at E M;subst E M;have I:=F;simp only[rep]at I;obtain⟨ad,n,c,rfl,e1,e2,_⟩:=I;obtain⟨A,hz⟩:=Dw he;have:=Fz (a:=a.toNat) (b:=b.toNat) F h3 (by omega) (by omega);refine⟨_,this,fun w' _=>?_⟩;rw[run_sliceAt_slice w' t _ _ _ _ A,run_slice_lh w' t ad n c A Y Z a b h0 h1 (by omega),hz];rfl
  ·exact h.elim
 ·rename_i es Y a;split at h
  ·rename_i e sz aa he;refine⟨_,h.2,fun T u X U F J _ _ O=>?_⟩;obtain⟨⟨h0,h1⟩,h3⟩:=h.1 T;obtain⟨v,rfl,E⟩:=J _ rfl;have:=O rfl;subst this;simp only[rep]at E;subst E;have I:=F;simp only[rep]at I;obtain⟨ad,n,c,rfl,e1,e2,_⟩:=I;obtain⟨A,hz⟩:=Dw he;have:=Fz (a:=a.toNat) (b:=es.length) F h3 (by omega) (by omega);rw[List.take_length,e1]at this;refine⟨_,this,fun w' _=>?_⟩;rw[run_sliceAt_slice w' t _ _ _ _ A,run_slice_l w' t ad n c A Y a h0 (by omega),hz];rfl
  ·exact h.elim
 ·rename_i es Z b;split at h
  ·rename_i e he;refine⟨_,h.2,fun T u X U F _ J O _=>?_⟩;obtain⟨h0,h1⟩:=h.1 T;obtain⟨v,rfl,E⟩:=O _ rfl;have:=J rfl;subst this;simp only[rep]at E;subst E;obtain⟨A,hz⟩:=Dw he;simp only[rep]at F;obtain⟨ad,n,c,rfl,e1,e2,e3,e4⟩:=F;refine⟨sliced ad 0 b.toNat c e.2.1,?_,fun w' _=>?_⟩
   ·simp only[rep];refine⟨ad,b.toNat,c,?_,by simp;omega,by omega,e3,?_⟩
    ·simp only[sliced,Nat.sub_zero]
     congr 1
     split
     ·rfl
     ·cases ad <;> simp[Addr.add_zero']
    ·rcases e4 with e4|⟨bl,o,af,rfl,ac,ae,ab⟩
     ·left;rw[e4];simp
     ·exact .inr ⟨bl,o,af,rfl,ac,ae,xB es o _ ab⟩
   ·rw[run_sliceAt_slice w' t _ _ _ _ A,run_slice_h w' t ad n c A Z b h0 (by omega),hz];rfl
  ·exact h.elim
 ·rename_i s Y a Z b;split at h
  ·rename_i A;refine⟨_,h.2,fun T u X U F J _ O _=>?_⟩;obtain⟨h0,h1,h2⟩:=h.1 T;obtain⟨v,rfl,E⟩:=J _ rfl;obtain⟨v',rfl,M⟩:=O _ rfl;simp only[rep]at F E M;subst F E M;refine gE kG fun w'=>?_
   rw[run_sliceAt_string w' t _ _ _ _ (fC A),run_slice_string w' t s Y Z a b (fC A) h0 h1 h2]
  ·exact h.elim
 ·rename_i s Y a;split at h
  ·rename_i A;refine⟨_,h.2,fun T u X U F J _ _ O=>?_⟩;obtain⟨h0,h1⟩:=h.1 T;obtain⟨v,rfl,E⟩:=J _ rfl;have:=O rfl;subst this;simp only[rep]at F E;subst F E;refine gE kG fun w'=>?_
   rw[run_sliceAt_string w' t _ _ _ _ (fC A),run_slice_string_l w' t s (fC A) Y a h0 h1]
  ·exact h.elim
 ·rename_i s Z b;split at h
  ·rename_i A;refine⟨_,h.2,fun T u X U F _ J O _=>?_⟩;obtain⟨h0,h1⟩:=h.1 T;obtain⟨v,rfl,E⟩:=O _ rfl;have:=J rfl;subst this;simp only[rep]at F E;subst F E;refine gE kG fun w'=>?_
   rw[run_sliceAt_string w' t _ _ _ _ (fC A),run_slice_string_h w' t s (fC A) Z b h0 h1]
  ·exact h.elim
 ·exact h.elim
def Pi{k:Nat}{r:Row}(Y:yK S w H)(hk:H k=some r){a b c:Nat}{ad:Option Addr}{n:Nat}(M:S.loc k=.slice ad n c)(T:a<=b)(hb:b<=r.es.length):n=r.es.length/\n<=c/\rep S w (.oz k a b) (sliced ad a b c r.sz):=by
 have O:=Y k r hk;obtain⟨xs,ho,_,_⟩:=O.sl M;have A:(ad=none/\n=0/\c=0/\r.es.length=0)\/∃g,ad=some ⟨g,0,none⟩/\n=r.es.length/\n<=c:=by
  rcases ho.2 with⟨F,J⟩|⟨g,cap,cur,F,_,_,U,_⟩
  ·rw[M]at F;injection F with h1 E I;exact .inl ⟨h1,E,I,J⟩
  ·rw[M]at F;injection F with h1 E I;subst I;exact .inr ⟨g,h1,E,by omega⟩
 have J:n=r.es.length/\n<=c:=by rcases A with⟨_,h1,E,I⟩|⟨g,_,h1,E⟩ <;> omega
 refine⟨J.1,J.2,?_⟩;simp only[rep,sliced];refine⟨O.lt,ad,n,c,_,_,M,rfl,T,by omega,fun X=>?_,fun Z=>?_,J.2,rfl⟩
 ·rcases A with⟨_,h1,E,I⟩|⟨g,h0,h1,E⟩
  ·omega
  ·subst h0;refine⟨g,rfl,?_⟩;rw[if_neg (by omega)];simp[Addr.add_lit,O.sz]
 ·subst Z;rcases A with⟨h0,_,_,_⟩|⟨g,h0,_,_⟩
  ·subst h0;simp
  ·subst h0;simp[Addr.add_lit]
def rE{H':aH}{t:TypeId}{x:AV}{lo hi:Option AV}(hH:yK S w H)(h:asl P G H t x lo hi K):
  ∃z,K z/\(gt G->∀(u:Value) (U T:Option Value),rep S w x u->(∀y,lo=some y->∃v,U=some v/\rep S w y v)->(lo=none->U=none)->(∀y,hi=some y->∃v,T=some v/\rep S w y v)->(hi=none->T=none) ->
   wX P S H' w z (Instr.sliceAt t u U T none)):=by
 unfold asl at h;split at h
 ·rename_i k;split at h
  ·rename_i r e sz O hk he;obtain⟨I,hz⟩:=Dw he;split at h
   ·rename_i ka a kb b;refine⟨_,h.2,fun Z u U T F M _ X _=>?_⟩;obtain⟨⟨h0,h1,h2⟩,Y⟩:=h.1 Z;obtain⟨v,rfl,E⟩:=M _ rfl;obtain⟨v',rfl,ab⟩:=X _ rfl;simp only[rep]at E ab F;subst E ab;obtain⟨_,rfl,ad,n,c,A⟩:=F;obtain⟨q1,q2,q3⟩:=Pi (a:=a.toNat) (b:=b.toNat) hH hk A (by omega) (by omega);rw[A];refine⟨_,q3,fun w' _=>?_⟩;rw[run_sliceAt_slice w' t _ _ _ _ I,run_slice_lh w' t ad n c I ka kb a b h0 h1 (by omega),hz,Y];rfl
   ·rename_i ka a;refine⟨_,h.2,fun Z u U T F M _ _ X=>?_⟩;obtain⟨⟨h0,h1⟩,Y⟩:=h.1 Z;obtain⟨v,rfl,E⟩:=M _ rfl;have:=X rfl;subst this;simp only[rep]at E F;subst E;obtain⟨_,rfl,ad,n,c,A⟩:=F;obtain⟨q1,q2,q3⟩:=Pi (a:=a.toNat) (b:=r.es.length) hH hk A (by omega) (by omega);rw[A];refine⟨_,q3,fun w' _=>?_⟩;rw[run_sliceAt_slice w' t _ _ _ _ I,run_slice_l w' t ad n c I ka a h0 (by omega),hz,Y,q1];rfl
   ·rename_i kb b;refine⟨_,h.2,fun Z u U T F _ M X _=>?_⟩;obtain⟨⟨h0,h1⟩,Y⟩:=h.1 Z;obtain⟨v,rfl,E⟩:=X _ rfl;have:=M rfl;subst this;simp only[rep]at E F;subst E;obtain⟨_,rfl,ad,n,c,A⟩:=F;obtain⟨q1,q2,q3⟩:=Pi (a:=0) (b:=b.toNat) hH hk A (by omega) (by omega);rw[A];refine⟨_,q3,fun w' _=>?_⟩;rw[run_sliceAt_slice w' t _ _ _ _ I,run_slice_h w' t ad n c I kb b h0 (by omega),hz,Y];rfl
   ·exact h.elim
  ·exact h.elim
 ·rename_i k a b;split at h
  ·rename_i r e sz O hk he;obtain⟨I,hz⟩:=Dw he;split at h
   ·rename_i kl l;refine⟨_,h.2,fun Z u U T F M _ _ X=>?_⟩;obtain⟨⟨h0,h1⟩,Y⟩:=h.1 Z;obtain⟨v,rfl,E⟩:=M _ rfl;have:=X rfl;subst this;simp only[rep]at E F;subst E;obtain⟨ah,ad,n,c,aa,cc,A,rfl,ak,ai,J,af,ag,rfl⟩:=F;have hR:=hH k r hk;refine⟨sliced aa l.toNat (b-a) (c-a) r.sz,?_,fun w' _=>?_⟩
    ·simp only[rep,sliced];refine⟨ah,ad,n,c,_,_,A,congrArg (fun m=>Value.slice _ m _) (by omega),by omega,ai,fun hc=>?_,fun ha=>?_,ag,by omega⟩
     ·obtain⟨g,rfl,rfl⟩:=J (by omega);refine⟨g,rfl,?_⟩;rw[if_neg (by omega)];simp[Addr.add_lit,hR.sz,Nat.add_mul]
     ·have ae:a=0:=by omega
      have ac:l.toNat=0:=by omega
      obtain⟨e1,e2⟩:=af ae;subst e1;refine⟨?_,by omega⟩;rw[ac];split
      ·rfl
      ·rename_i aj;obtain⟨g,e1,e2⟩:=J (by omega);rw[e1];simp[Addr.add_lit]
    ·rw[run_sliceAt_slice w' t _ _ _ _ I,run_slice_l w' t aa (b-a) (c-a) I kl l h0 (by omega),hz,Y];rfl
   ·exact h.elim
  ·exact h.elim
 ·exact Lv h
def Ln{t:TypeId}{x i:AV}(h:xD P G t x i K):
  ∃z,K z/\(gt G->∀u v,rep S w x u->rep S w i v->wX P S H w z (Instr.index t u v)):=by
 unfold xD at h;split at h
 ·rename_i s k n;split at h
  ·rename_i Y;refine⟨_,h.2,fun F u v I A=>?_⟩;obtain⟨h0,h1⟩:=h.1 F;simp only[rep]at I A;subst I A;refine gE kG fun w'=>?_
   rw[run_index_string w' t s k n (fC Y),dif_pos ⟨h0,h1⟩];have O:n.toNat<s.data.size:=by have:s.size=s.data.size:=rfl;omega
   congr 4
   rw[Array.getD,dif_pos O];rfl
  ·exact h.elim
 ·rename_i cs k n;split at h
  ·rename_i m s l Z;obtain⟨e,T,I,hi,rfl,_,X⟩:=Iv Z;obtain⟨z,hz,hd⟩:=Et (S:=S) (H:=H) (w:=w) X h.2;refine⟨z,hz,fun F u v J A=>?_⟩;obtain⟨h0,h1⟩:=h.1 F;obtain⟨cs',rfl,M⟩:=hd F u J;simp only[rep]at A;subst A;obtain⟨r,U,E⟩:=M;refine⟨r,U,fun w' hw=>?_⟩;have:=E w' hw;simp[Instr.index,asIntOf,run_underlying I,h0,h1,sizeOf,typeInfo,hi];simpa using this
  ·exact h.elim
 ·exact h.elim
def opB(n:Nat):Operand->Bool
 | .tmp t=>decide (t<n)
 | _=>true
def FR(S:Sg)(w:World)(ρ:Env)(a:Act):Prop:=∀t,t<a.tmps.size->rep S w (ρ t) (a.tmps.getD t undef)
def cJ{ρ:Env}{a:Act}(E:FR S w ρ a){x:Operand}(A:opB a.tmps.size x=true):rep S w (aev ρ x) (a.eval x):=by
 cases x with
 | tmp t=>simp only[opB,decide_eq_true_eq]at A;exact E t A
 | const v=>exact Dq v
 | global g=>trivial
 | func f=>exact kG
def P2{ρ:Env}{a:Act}(A:FR S w ρ a){x:Operand}(E:opB a.tmps.size x=true):rep S w (Ls ρ x) (a.eval x):=by
 cases x with
 | const v=>exact kG
 | tmp t=>exact cJ A E
 | global g=>exact cJ A E
 | func f=>exact cJ A E
def D2{ρ:Env}{a:Act}(A:FR S w ρ a):∀(l:List Operand),(∀x∈l,opB a.tmps.size x=true)->bC S w (l.map (Ls ρ)) (l.map a.eval)
 | [],_=>rfl
 | x::l,h=>by simp only[List.map_cons,bC];exact⟨_,_,rfl,P2 A (h x (by simp)),D2 A l fun y E=>h y (by simp[E])⟩
def nX{ρ:Env}{a:Act}(M:FR S w ρ a):∀(l:List (Nat×Operand)) {K:List (Nat×List AV)->Prop},(∀p∈l,opB a.tmps.size p.2=true)->pA G ρ l K ->
  ∃A,K A/\(gt G->A.length=(l.map fun p=>(p.1,a.eval p.2)).length /\
   ∀(j i:Nat) (c:List AV),A[j]?=some (i,c)->∃(v:Value) (l':List Value),(l.map fun p=>(p.1,a.eval p.2))[j]?=some (i,v)/\v.cells=List.toArray l'/\bC S w c l'/\∀u∈l',u.oneCell'=true)
 | [],K,_,h=>⟨[],h,fun _=>⟨rfl,by simp⟩⟩
 | (i,x)::rest,K,hb,h=>by
  simp only[pA]at h;obtain⟨y,h,Z⟩:=aU (S:=S) (w:=w) h;obtain⟨cs,h,I⟩:=wD (S:=S) (w:=w) h;obtain⟨A,Y,E⟩:=nX M rest (fun p hp=>hb p (by simp[hp])) h;refine⟨_,Y,fun J=>?_⟩;obtain⟨O,X⟩:=E J;refine⟨by simpa using O,fun j k c F=>?_⟩;cases j with
  | zero=>simp at F;obtain⟨rfl,rfl⟩:=F;obtain⟨l',U,f2,T⟩:=I _ (Z J _ (cJ M (hb (i,x) (by simp))));exact⟨_,l',by simp,U,f2,T⟩
  | succ j=>simpa using X j k c (by simpa using F)
def tT{t:TypeId}{i:TypeInfo}{M:Value}{z:List AV}{Z:List (Nat×Nat)}(hi:P.info? t=some i)(J:i.zero=some M)(h1:∀u∈M.cells.toList,u.oneCell'=true)(hr:bC S w z M.cells.toList)(I:dB P t=some Z){A:List (Nat×List AV)}{vs:List (Nat×Value)}{cs:List AV}
  (hf:qC Z z A=some cs) (hl:A.length=vs.length)
  (hv:∀(j i:Nat) (c:List AV),A[j]?=some (i,c)->∃(v:Value) (l:List Value),vs[j]?=some (i,v)/\v.cells=List.toArray l/\bC S w c l/\∀u∈l,u.oneCell'=true):
  ∃F,P.built t vs=some F/\bC S w cs F.toList/\∀v∈F.toList,v.oneCell'=true:=by
 unfold dB at I;split at I
 ·rename_i fs hu;obtain⟨F,X,Y,O⟩:=zD (place:=fun i=>Z.toArray[i]?) (fun i on h=>by simpa using h) A vs _ M.cells cs hf hr h1 hl hv;refine⟨F,?_,Y,O⟩;unfold Program.built;simp only[hi,hu,J,I];exact X
 ·rename_i n e hu;cases E:P.info? e with
  | none=>simp[E]at I
  | some ie=>
   simp[E]at I;obtain⟨F,X,Y,O⟩:=zD (place:=fun i=>some (i*ie.size,ie.size)) (fun i on h=>by
    rw[<-I]at h;simp only[List.getElem?_map,Option.map_eq_some_iff]at h;obtain⟨j,h,rfl⟩:=h;have U:i<n:=by
     rcases Nat.lt_or_ge i n with T|T
     ·exact T
     ·simp[List.getElem?_eq_none,T]at h
    simp[U]at h;rw[h]) A vs _ M.cells cs hf hr h1 hl hv
   refine⟨F,?_,Y,O⟩;unfold Program.built;simp only[hi,hu,J,E];exact X
 ·simp at I
def Kj{t:TypeId}{z:List AV}{I:List (Nat×Nat)}(Z:cV P t=some z)(X:dB P t=some I){A:List (Nat×List AV)}{vs:List (Nat×Value)}{cs:List AV}
  (O:qC I z A=some cs) (M:A.length=vs.length)
  (U:∀(j i:Nat) (c:List AV),A[j]?=some (i,c)->∃(v:Value) (l:List Value),vs[j]?=some (i,v)/\v.cells=List.toArray l/\bC S w c l/\∀u∈l,u.oneCell'=true):
  ∃F,P.built t vs=some F/\bC S w cs F.toList/\∀v∈F.toList,v.oneCell'=true:=by
 obtain⟨i,Y,J,E,rfl,T,_,h1⟩:=mT Z;exact tT J E h1 (lS Y.cells.toList) X O M U
end
end Go.Aw
end
section
namespace Go.Aw
open Go.RowKit
section
variable{P:Program}{S:Sg}{H:aH}{w:World}{G:Option Bool}{K:AV->Prop}
def Vq{a b:ByteArray}(h:a.toList=b.toList):a=b:=by rw[ByteArray.toList_eq,ByteArray.toList_eq]at h;exact ByteArray.ext (Array.toList_inj.1 h)
def UJ{t:TypeId}{A:TypeId×TypeId}(h:Rq P t=some A):P.underlying t=some (.map A.1 A.2):=by
 unfold Rq at h;split at h
 ·rename_i k e E;injection h with h;subst h;exact E
 ·simp at h
def Jg{t:TypeId}{z:AV}(h:Is P t=some z):∃v,(∀w':World,(zeroValue t).run P w'=.ok v w')/\∀S w,rep S w z v:=by
 unfold Is at h;split at h
 ·rename_i i F;split at h
  ·rename_i cs E;split at h
   ·rename_i A;injection h with h;subst h;refine⟨.agg cs,fun w'=>by simp[zeroValue,typeInfo,F,E],fun S w=>?_⟩;simp only[rep];refine⟨cs.toList,by simp,lS _,fun u I=>List.all_eq_true.1 A u I⟩
   ·simp at h
  ·rename_i v _ E;split at h
   ·injection h with h;subst h;exact⟨v,fun w'=>by simp[zeroValue,typeInfo,F,E],fun S w=>Dq _⟩
   ·simp at h
  ·simp at h
 ·simp at h
def If{U:TypeId}{x y:AV}{b:Bool}(h:pL P U x y=some b){u v:Value}(Y:rep S w x u)(X:rep S w y v):
  ∃d,P.underlying U=some d/\Instr.sameNow d u v=some b/\(b=true->u=v/\∀n,Instr.sameBits (n+1) v u=true):=by
 unfold pL at h;split at h
 ·rename_i a c;simp only[rep]at Y X;subst Y X;split at h
  ·rename_i k T;unfold uI at h;split at h
   ·rename_i k1 a1 Z E F I;cases F;cases I;split at h
    ·rename_i M;subst M;rcases lE T with⟨_,k',A⟩|⟨h0,_⟩|⟨h0,_⟩
     ·injection h with h;subst h;refine⟨_,A,by simp[Instr.sameNow],fun J=>?_⟩;have:a1=E:=by simpa using J
      subst this;exact⟨rfl,fun n=>by simp[Instr.sameBits]⟩
     ·simp at h0
     ·simp at h0
    ·simp at h
   ·rename_i a1 E F I;cases F;cases I;rcases lE T with⟨h0,_⟩|⟨_,A⟩|⟨h0,_⟩
    ·simp at h0
    ·injection h with h;have J:(a1 == E)=b:=by rw[beq_toListBytes];exact h
     refine⟨_,A,by simp[Instr.sameNow,J],fun O=>?_⟩;have:a1=E:=Vq (by rw[O]at h;simpa using h);subst this;exact⟨rfl,fun n=>by simp[Instr.sameBits,beq_toListBytes]⟩
    ·simp at h0
   ·rename_i a1 E F I;cases F;cases I;rcases lE T with⟨h0,_⟩|⟨h0,_⟩|⟨_,A⟩
    ·simp at h0
    ·simp at h0
    ·injection h with h;subst h;refine⟨_,A,by simp[Instr.sameNow],fun J=>?_⟩;have:a1=E:=by simpa using J
     subst this;exact⟨rfl,fun n=>by simp[Instr.sameBits]⟩
   ·simp at h
  ·simp at h
 ·simp at h
def IK{U:TypeId}{x:AV}{u:Value}{d:TypeDesc}(M:P.underlying U=some d)(T:rep S w x u):∀(es:List (List AV)) (ms:List MapEntry) (i:Nat) {oi:Option Nat},kJ S w i es ms->tA (pL P U x) es i=some oi ->
  (oi=none->Instr.findNow d u ms i=some none)/\∀j,oi=some j->∃m cs,i<=j/\ms[j-i]?=some m/\es[j-i]?=some cs/\Instr.findNow d u ms i=some (some (j,m.val))/\m.key=u/\(∀n,Instr.sameBits (n+1) m.key u=true)/\m.born=j/\bC S w cs [m.key,m.val]
 | [],ms,i,oi,he,E=>by simp only[kJ]at he;subst he;simp only[tA]at E;injection E with E;subst E;exact⟨fun _=>rfl,fun j h=>by simp at h⟩
 | cs::r,ms,i,oi,he,E=>by
  simp only[kJ]at he;obtain⟨m,t,rfl,hb,J,Y⟩:=he;unfold tA at E;have X:rep S w (cs.getD 0 .any) m.key:=by
   cases cs with
   | nil=>simp[bC]at J
   | cons c cs=>simp only[bC]at J;obtain⟨_,_,e,h1,_⟩:=J;injection e with e1 e2;subst e1;simpa using h1
  split at E
  ·rename_i F;injection E with E;subst E;obtain⟨d',A,h1,O⟩:=If F T X;rw[M]at A;injection A with A;subst A;refine⟨fun h=>by simp at h,fun j I=>?_⟩;injection I with I;subst I;exact⟨m,cs,Nat.le_refl _,by simp,by simp,by simp[Instr.findNow,h1],(O rfl).1.symm,(O rfl).2,hb,J⟩
  ·rename_i F;obtain⟨d',A,h1,O⟩:=If F T X;rw[M]at A;injection A with A;subst A;obtain⟨g1,g2⟩:=IK M T r t (i+1) Y E;refine⟨fun h=>by simp[Instr.findNow,h1,g1 h],fun j I=>?_⟩;obtain⟨m',cs',q1,Z,q3,q4,q5⟩:=g2 j I;have e:j-i=(j-(i+1))+1:=by omega
   exact⟨m',cs',by omega,by rw[e];simpa using Z,by rw[e];simpa using q3,by simp[Instr.findNow,h1,q4],q5⟩
  ·simp at E
def zF:∀(i:Nat) (es:List (List AV)) (ms:List MapEntry),kJ S w i es ms->ms.length=es.length
 | _,[],ms,h=>by simp only[kJ]at h;simp[h]
 | i,cs::r,ms,h=>by simp only[kJ]at h;obtain⟨m,t,rfl,_,_,A⟩:=h;simp[zF (i+1) r t A]
def Np:∀(i:Nat) (es:List (List AV)) (ms:List MapEntry) (j:Nat),kJ S w i es ms->j<es.length->∃m,ms[j]?=some m/\m.born=i+j/\bC S w (es.getD j []) [m.key,m.val]
 | _,[],_,_,_,h=>by simp at h
 | i,cs::r,ms,0,h,_=>by simp only[kJ]at h;obtain⟨m,t,rfl,h1,I,_⟩:=h;exact⟨m,by simp,by simpa using h1,by simpa using I⟩
 | i,cs::r,ms,j+1,h,hj=>by simp only[kJ]at h;obtain⟨m,t,rfl,_,_,E⟩:=h;obtain⟨F,A,J,g3⟩:=Np (i+1) r t j E (by simpa using hj);exact⟨F,by simpa using A,by omega,by simpa using g3⟩
def Cg:∀(i:Nat) (es:List (List AV)) (ms:List MapEntry) (j:Nat) {cs:List AV} {m:MapEntry},kJ S w i es ms->m.born=i+j->bC S w cs [m.key,m.val]->kJ S w i (es.set j cs) (ms.set j m)
 | _,[],ms,_,_,_,h,_,_=>by simp only[kJ]at h;subst h;simp[kJ]
 | i,c::r,ms,0,cs,m,h,hb,hr=>by simp only[kJ]at h;obtain⟨E,t,rfl,_,_,A⟩:=h;simp only[List.set_cons_zero,kJ];exact⟨m,t,rfl,by simpa using hb,hr,A⟩
 | i,c::r,ms,j+1,cs,m,h,hb,hr=>by simp only[kJ]at h;obtain⟨E,t,rfl,h1,F,A⟩:=h;simp only[List.set_cons_succ,kJ];exact⟨E,t.set j m,rfl,h1,F,Cg (i+1) r t j A (by omega) hr⟩
def BP:∀(i:Nat) (es:List (List AV)) (ms:List MapEntry) {cs:List AV} {m:MapEntry},kJ S w i es ms->m.born=i+es.length->bC S w cs [m.key,m.val]->kJ S w i (es++[cs]) (ms++[m])
 | i,[],ms,cs,m,h,hb,hr=>by simp only[kJ]at h;subst h;simp only[List.nil_append,kJ];exact⟨m,[],rfl,by simpa using hb,hr,rfl⟩
 | i,c::r,ms,cs,m,h,hb,hr=>by simp only[kJ]at h;obtain⟨F,t,rfl,h1,E,A⟩:=h;simp only[List.cons_append,kJ];exact⟨F,t++[m],rfl,h1,E,BP (i+1) r t A (by simp at hb;omega) hr⟩
def zI{A:TypeId}{x:AV}(h:mF P A x=true){u:Value}(E:rep S w x u)(e:Bool)(n:Nat)(w':World):(∃d,P.underlying A=some d)/\(Instr.checkKey e (n+1) A u).run P w'=.ok () w':=by
 unfold mF at h;split at h
 all_goals first|(simp at h;done)|skip
 all_goals
  simp only[beq_iff_eq]at h;simp only[rep]at E;subst E;rcases lE h with⟨h0,k',hk'⟩|⟨h0,hk'⟩|⟨h0,hk'⟩ <;> first
   | (simp at h0;done)
   | exact⟨⟨_,hk'⟩,by unfold Instr.checkKey;simp only[Sem.run_bind,run_underlying hk',Result.andThen];rfl⟩
def OL{t:TypeId}{A:TypeId×TypeId}{x:AV}{r:Row}{k:Nat}{u:Value}{E:Option Nat}(O:Rq P t=some A)(M:mF P A.1 x=true)(hf:tA (pL P A.1 x) r.es 0=some E)(hm:Zx S w k r)(I:rep S w x u):
  ∃g ms,S.loc k=.map (some g)/\w.heap[g]?=some (.map (List.toArray ms) ms.length)/\kJ S w 0 r.es ms/\P.underlying t=some (.map A.1 A.2)/\(∀e (w':World),(Instr.checkKey e 10000 A.1 u).run P w'=.ok () w') /\
   ((E=none/\∀w':World,(Instr.findKey A.1 u ms).run P w'=.ok none w') \/
   ∃j m cs,E=some j/\ms[j]?=some m/\r.es[j]?=some cs/\(∀w':World,(Instr.findKey A.1 u ms).run P w'=.ok (some (j,m.val)) w')/\m.key=u/\(∀n,Instr.sameBits (n+1) m.key u=true)/\m.born=j/\bC S w cs [m.key,m.val]):=by
 obtain⟨g,ms,h1,h2,J,_⟩:=hm;obtain⟨⟨d,F⟩,_⟩:=zI M I true 0 w;refine⟨g,ms,h1,h2,J,UJ O,fun e w'=>(zI M I e 9999 w').2,?_⟩;obtain⟨X,f2⟩:=IK F I r.es ms 0 J hf;cases E with
 | none=>exact .inl ⟨rfl,fun w'=>by simp[Instr.findKey,run_underlying F,X rfl]⟩
 | some j=>obtain⟨m,cs,_,T,q3,q4,Z,U,Y,q8⟩:=f2 j rfl;exact .inr ⟨j,m,cs,rfl,by simpa using T,by simpa using q3,fun w'=>by simp[Instr.findKey,run_underlying F,q4],Z,U,Y,q8⟩
def Gw{cs:List AV}{a b:Value}(h:bC S w cs [a,b]):∃x y,cs=[x,y]/\rep S w x a/\rep S w y b:=by
 cases cs with
 | nil=>simp[bC]at h
 | cons x cs=>
  simp only[bC]at h;obtain⟨u,t,e,h1,E⟩:=h;injection e with A F;subst A F;cases cs with
  | nil=>simp[bC]at E
  | cons y cs=>
   simp only[bC]at E;obtain⟨u,t,e,J,I⟩:=E;injection e with A F;subst A F;cases cs with
   | nil=>exact⟨x,y,rfl,h1,J⟩
   | cons _ _=>simp[bC]at I
def HK{t:TypeId}{x I:AV}{ok:Bool}(hH:yK S w H)(h:tF P H t x I ok K):
  ∃z,K z/\(gt G->∀u v,rep S w x u->rep S w I v->wX P S H w z (Instr.lookup t u v ok)):=by
 unfold tF DR at h;split at h
 ·rename_i j;split at h
  ·rename_i r kt hj ht;split at h
   ·rename_i oi hf;obtain⟨hp,h⟩:=h;split at h
    ·rename_i z hz;refine⟨_,h,fun _ u v hu hv=>?_⟩;simp only[rep]at hu;obtain⟨_,rfl,g0,U⟩:=hu;obtain⟨g,ms,h1,h2,h3,M,T,O⟩:=OL ht hp hf ((hH j r hj).mp U) hv;obtain⟨X,F,J⟩:=Jg hz;have A:∀w',Agree S H w w'->w'.heap[g]?=some (.map (List.toArray ms) ms.length):=fun w' E=>(E.own j r hj g (by rw[h1];rfl)).trans h2
     rcases O with⟨rfl,O⟩|⟨i,m,cs,rfl,q1,q2,Z,q4,q5,q6,q7⟩
     ·cases ok with
      | false=>refine⟨X,J S w,fun w' E=>?_⟩;simp[Instr.lookup,run_underlying M,h1,MapKept.run_getObj_map (A w' E),T,O,F,Fv]
      | true=>
       refine⟨.tuple #[X,.bool false],?_,fun w' E=>?_⟩
       ·simp only[Fv,if_true,rep,bC];exact⟨[X,.bool false],by simp,_,_,rfl,J S w,_,_,rfl,rfl,rfl⟩
       ·simp[Instr.lookup,run_underlying M,h1,MapKept.run_getObj_map (A w' E),T,O,F,Fv]
     ·obtain⟨xk,xv,rfl,r1,r2⟩:=Gw q7;have Y:(r.es.getD i []).getD 1 .any=xv:=by simp[List.getD,q2]
      cases ok with
      | false=>refine⟨m.val,by simp only[Fv,Y];exact r2,fun w' E=>?_⟩;simp[Instr.lookup,run_underlying M,h1,MapKept.run_getObj_map (A w' E),T,Z]
      | true=>
       refine⟨.tuple #[m.val,.bool true],?_,fun w' E=>?_⟩
       ·simp only[Fv,if_true,Y,rep,bC];exact⟨[m.val,.bool true],by simp,_,_,rfl,r2,_,_,rfl,rfl,rfl⟩
       ·simp[Instr.lookup,run_underlying M,h1,MapKept.run_getObj_map (A w' E),T,Z]
    ·exact h.elim
   ·exact h.elim
  ·exact h.elim
 ·exact h.elim
end
end Go.Aw
end
section
namespace Go.Aw
open Go.RowKit
section
variable{P:Program}{S:Sg}{H:aH}{w:World}{G:Option Bool}{K:AV->Prop}
def Af{s:Sem Value}{v:Value}{w':World}(h:s.run P w'=.ok v w'):(do pure (Next.value (<-s)):Sem Next).run P w'=.ok (.value v) w':=by simp[h]
def lT(P:Program)(S:Sg)(H:aH)(w:World)(a:Act)(op:Op)(z:AV):Prop:=
 ∃v,rep S w z v/\∀w',Agree S H w w'->∀o:Oper,o.op=op->(execOp a.eval o).run P w'=.ok (.value v) w'
def lT.of_does{a:Act}{op:Op}{z:AV}{s:Sem Value}(J:wX P S H w z s)(E:∀o:Oper,o.op=op->execOp a.eval o=(do pure (Next.value (<-s)):Sem Next)):lT P S H w a op z:=by obtain⟨v,I,A⟩:=J;exact⟨v,I,fun w' M o F=>by rw[E o F];exact Af (A w' M)⟩
def mW{G:Option Bool}{ρ:Env}{a:Act}(F:FR S w ρ a):∀(l:List Operand) {K:List AV->Prop},(∀x∈l,opB a.tmps.size x=true)->AM G ρ l K ->
  ∃E,K E/\(gt G->bC S w E (l.map a.eval))
 | [],K,_,h=>⟨[],h,fun _=>by simp[bC]⟩
 | x::rest,K,hb,h=>by simp only[AM]at h;obtain⟨y,h,M⟩:=aU (S:=S) (w:=w) h;obtain⟨E,O,A⟩:=mW F rest (fun x J=>hb x (by simp[J])) h;refine⟨_,O,fun I=>?_⟩;simp only[List.map_cons,bC];exact⟨_,_,rfl,M I _ (cJ F (hb x (by simp))),A I⟩
def Ey{ρ:Env}{a:Act}{op:Op}(hb:∀x∈op.operands,opB a.tmps.size x=true)(hF:FR S w ρ a)(hH:yK S w H)(h:gP P G ρ H op K):
  ∃z,K z/\(gt G->lT P S H w a op z):=by
 have ev:=fun x J=>cJ hF (hb x J)
 cases op <;> simp only[gP]at h <;> simp only[Op.operands]at ev hb <;> try exact h.elim
 case move x=>obtain⟨z,F,M⟩:=aU (S:=S) (w:=w) h;exact⟨z,F,fun A=>⟨_,M A _ (ev x (by simp)),fun w' _ o E=>by simp[execOp,E]⟩⟩
 case assign x=>obtain⟨z,F,M⟩:=aU (S:=S) (w:=w) h;exact⟨z,F,fun A=>⟨_,M A _ (ev x (by simp)),fun w' _ o E=>by simp[execOp,E]⟩⟩
 case pick c x y=>
  obtain⟨zc,h,X⟩:=aU (S:=S) (w:=w) h;split at h
  ·rename_i b;obtain⟨z,F,M⟩:=Oh (S:=S) (w:=w) h;refine⟨z,F,fun A=>?_⟩;have e:=Yt (X A _ (ev c (by simp)));refine⟨_,M A _ _ (ev x (by simp)) (ev y (by simp)),fun w' _ o E=>?_⟩;simp[execOp,E,e,asBool]
  ·exact h.elim
 case build t parts=>
  obtain⟨ps,h,ah⟩:=nX hF parts.toList (fun p hp=>hb p.2 (by simpa using⟨p.1,by simpa using hp⟩)) h;unfold wC at h;split at h
  ·rename_i z pl F ai;split at h
   ·rename_i cs al;refine⟨_,h,fun A=>?_⟩;obtain⟨e1,e2⟩:=ah A;obtain⟨A',f1,f2,f3⟩:=Kj (S:=S) (w:=w) F ai al e1 e2;refine⟨.agg A',by simp only[rep];exact⟨A'.toList,by simp,f2,f3⟩,fun w' _ o E=>?_⟩;have:(parts.map fun(p:Nat×Operand)=>(p.1,a.eval p.2)).toList=parts.toList.map fun p=>(p.1,a.eval p.2):=by simp
    rw[<-this]at f1;simp only[execOp,E];exact Af (run_build w' t _ A' f1)
   ·exact h.elim
  ·exact h.elim
 case load t x=>
  split at h
  ·rename_i l hl;obtain⟨y,h,M⟩:=aU (S:=S) (w:=w) h;obtain⟨z,F,O⟩:=DS hl hH h;exact⟨z,F,fun A=>lT.of_does (O A _ (M A _ (ev x (by simp)))) (fun o E=>by simp[execOp,E])⟩
  ·exact h.elim
 case nilCheck x=>
  obtain⟨y,h,M⟩:=aU (S:=S) (w:=w) h;split at h
  ·refine⟨_,h,fun A=>?_⟩;have e:=M A _ (ev x (by simp));refine⟨_,e,fun w' _ o E=>?_⟩;simp only[rep]at e;obtain⟨b,p,e,_⟩:=e;simp[execOp,E,e]
  ·refine⟨_,h,fun A=>?_⟩;have e:=M A _ (ev x (by simp));refine⟨_,e,fun w' _ o E=>?_⟩;simp only[rep]at e;obtain⟨_,b,p,c,_,e⟩:=e;simp[execOp,E,e]
  ·obtain⟨h0,cs,off,h⟩:=h;exact⟨_,h,fun A=>(h0 A).elim⟩
  ·exact h.elim
 case binOp op t x y t'=>
  split at h
  ·rename_i ab;have M:y=.const (.slice none 0 0):=by
    unfold sF at ab;split at ab
    ·rfl
    ·simp at ab
   subst M;obtain⟨x',h,J⟩:=aU (S:=S) (w:=w) h;obtain⟨af,h⟩:=h;obtain⟨e,aj⟩:=tL af;have I:∀(b:Bool) (ad:Option Addr) (n c:Nat),a.eval x=.slice ad n c->(op=.eql/\b=ad.isNone\/op=.neq/\b= !ad.isNone)->lT P S H w a (.binOp op t x (.const (.slice none 0 0)) t') (.v (.bool b)):=by
    intro b ad n c J hb;refine⟨.bool b,by simp only[rep],fun w' _ o E=>?_⟩;have ec:a.eval (.const (.slice none 0 0))=.slice none 0 0:=rfl;simp only[execOp,E,J,ec];have A:(eqGuard op t x (.const (.slice none 0 0)) (.slice ad n c) (.slice none 0 0)).run P w'=.ok () w':=gG op t x _ _ _ (by simp) (by simp) w';have he:(Op.equal t (.slice ad n c) (.slice none 0 0)).run P w'=.ok ad.isNone w':=by have e0:Op.equal t (.slice ad n c) (.slice none 0 0)=Op.equalIn (9999+1) t (.slice ad n c) (.slice none 0 0):=rfl;rw[e0];unfold Op.equalIn;cases ad <;> simp[run_underlying aj]
    rcases hb with⟨rfl,rfl⟩|⟨rfl,rfl⟩
    ·exact Af (by simp only[Sem.run_bind,A,Result.andThen_ok];simp[binOp,he])
    ·exact Af (by simp only[Sem.run_bind,A,Result.andThen_ok];simp[binOp,he])
   by_cases A:gt G
   ·have Z:=J A _ (ev x (by simp));unfold pX at h;split at h
    ·simp only[rep]at Z;obtain⟨ad,n,c,Y,hl,_,_,X⟩:=Z;cases ad with
     | none=>
      rcases X with X|⟨b,o,sz,X,_⟩
      ·exact⟨_,h.1 X,fun _=>I _ _ _ _ Y (.inl ⟨rfl,rfl⟩)⟩
      ·simp at X
     | some ad=>exact⟨_,h.2,fun _=>I _ _ _ _ Y (.inl ⟨rfl,rfl⟩)⟩
    ·simp only[rep]at Z;obtain⟨ad,n,c,Y,hl,_,_,X⟩:=Z;cases ad with
     | none=>
      rcases X with X|⟨b,o,sz,X,_⟩
      ·exact⟨_,h.1 X,fun _=>I _ _ _ _ Y (.inr ⟨rfl,rfl⟩)⟩
      ·simp at X
     | some ad=>exact⟨_,h.2,fun _=>I _ _ _ _ Y (.inr ⟨rfl,rfl⟩)⟩
    ·simp only[rep]at Z;obtain⟨_,_,ad,n,c,Y⟩:=Z;cases ad with
     | none=>exact⟨_,h.1,fun _=>I _ _ _ _ Y (.inl ⟨rfl,rfl⟩)⟩
     | some ad=>exact⟨_,h.2,fun _=>I _ _ _ _ Y (.inl ⟨rfl,rfl⟩)⟩
    ·simp only[rep]at Z;obtain⟨_,_,ad,n,c,Y⟩:=Z;cases ad with
     | none=>exact⟨_,h.1,fun _=>I _ _ _ _ Y (.inr ⟨rfl,rfl⟩)⟩
     | some ad=>exact⟨_,h.2,fun _=>I _ _ _ _ Y (.inr ⟨rfl,rfl⟩)⟩
    ·simp only[rep]at Z;exact⟨_,h,fun _=>I _ none 0 0 Z (.inl ⟨rfl,rfl⟩)⟩
    ·simp only[rep]at Z;exact⟨_,h,fun _=>I _ none 0 0 Z (.inr ⟨rfl,rfl⟩)⟩
    ·exact h.elim
   ·unfold pX at h;split at h
    ·exact⟨_,h.2,fun T=>absurd T A⟩
    ·exact⟨_,h.2,fun T=>absurd T A⟩
    ·exact⟨_,h.2,fun T=>absurd T A⟩
    ·exact⟨_,h.2,fun T=>absurd T A⟩
    ·exact⟨_,h,fun T=>absurd T A⟩
    ·exact⟨_,h,fun T=>absurd T A⟩
    ·exact h.elim
  obtain⟨x',h,J⟩:=aU (S:=S) (w:=w) h;obtain⟨y',h,M⟩:=aU (S:=S) (w:=w) h;obtain⟨z,F,O⟩:=Qy (S:=S) (H:=H) (w:=w) h;exact⟨z,F,fun A=>lT.of_does (O A _ _ (J A _ (ev x (by simp))) (M A _ (ev y (by simp))) x y) (fun o E=>by simp[execOp,E])⟩
 case unOp op t x=>obtain⟨x',h,J⟩:=aU (S:=S) (w:=w) h;obtain⟨z,F,O⟩:=U2 (P:=P) (S:=S) (H:=H) (w:=w) h;exact⟨z,F,fun A=>lT.of_does (O _ (J A _ (ev x (by simp)))) (fun o E=>by simp[execOp,E])⟩
 case convert src dst x=>obtain⟨x',h,J⟩:=aU (S:=S) (w:=w) h;obtain⟨z,F,O⟩:=Nx (S:=S) (H:=H) (w:=w) h;exact⟨z,F,fun A=>lT.of_does (O _ (J A _ (ev x (by simp)))) (fun o E=>by simp[execOp,E])⟩
 case slice t x lo U m=>
  cases m with
  | some m=>
   cases lo with
   | some lo=>exact h.elim
   | none=>
    cases U with
    | none=>exact h.elim
    | some U=>simp only at h;obtain⟨x',h,J⟩:=aU (S:=S) (w:=w) h;obtain⟨ae,h,aa⟩:=aU (S:=S) (w:=w) h;obtain⟨m',h,hm⟩:=aU (S:=S) (w:=w) h;obtain⟨z,F,O⟩:=DT (S:=S) (w:=w) (H:=H) h;exact⟨z,F,fun A=>lT.of_does (O A _ _ _ (J A _ (ev x (by simp))) (aa A _ (ev U (by simp))) (hm A _ (ev m (by simp)))) (fun o E=>by simp[execOp,E])⟩
  | none=>
   simp only at h;obtain⟨x',h,J⟩:=aU (S:=S) (w:=w) h;cases lo with
   | some lo=>
    cases U with
    | some U=>
     obtain⟨ag,h,ac⟩:=aU (S:=S) (w:=w) h;obtain⟨ae,h,aa⟩:=aU (S:=S) (w:=w) h;obtain⟨z,F,O⟩:=rE hH h;refine⟨z,F,fun A=>lT.of_does (O A _ (some (a.eval lo)) (some (a.eval U)) (J A _ (ev x (by simp))) ?_ (by simp) ?_ (by simp)) (fun o E=>by simp[execOp,E])⟩
     ·intro y M;injection M with M;subst M;exact⟨_,rfl,ac A _ (ev lo (by simp))⟩
     ·intro y M;injection M with M;subst M;exact⟨_,rfl,aa A _ (ev U (by simp))⟩
    | none=>obtain⟨ag,h,ac⟩:=aU (S:=S) (w:=w) h;obtain⟨z,F,O⟩:=rE hH h;refine⟨z,F,fun A=>lT.of_does (O A _ (some (a.eval lo)) none (J A _ (ev x (by simp))) ?_ (by simp) (by simp) (by simp)) (fun o E=>by simp[execOp,E])⟩;intro y M;injection M with M;subst M;exact⟨_,rfl,ac A _ (ev lo (by simp))⟩
   | none=>
    cases U with
    | some U=>obtain⟨ae,h,aa⟩:=aU (S:=S) (w:=w) h;obtain⟨z,F,O⟩:=rE hH h;refine⟨z,F,fun A=>lT.of_does (O A _ none (some (a.eval U)) (J A _ (ev x (by simp))) (by simp) (by simp) ?_ (by simp)) (fun o E=>by simp[execOp,E])⟩;intro y M;injection M with M;subst M;exact⟨_,rfl,aa A _ (ev U (by simp))⟩
    | none=>exact h.elim
 case fieldAddr t x f=>obtain⟨x',h,J⟩:=aU (S:=S) (w:=w) h;obtain⟨z,F,O⟩:=Do (G:=G) (S:=S) (H:=H) (w:=w) h;exact⟨z,F,fun A=>lT.of_does (O A _ (J A _ (ev x (by simp)))) (fun o E=>by simp[execOp,E])⟩
 case field t x f=>
  split at h
  ·rename_i o l E;obtain⟨x',h,J⟩:=aU (S:=S) (w:=w) h;obtain⟨fs,fd,i,hu,hf,rfl,U,_,hl⟩:=AW E;obtain⟨z,F,O⟩:=Et (S:=S) (H:=H) (w:=w) hl h;refine⟨z,F,fun A=>?_⟩;obtain⟨cs,e,O⟩:=O A _ (J A _ (ev x (by simp)));refine lT.of_does (s:=Instr.field t (.agg cs) f) ?_ (fun o E=>by simp[execOp,E,e]);obtain⟨v,Y,hr⟩:=O;refine⟨v,Y,fun w' ha=>?_⟩;simp[Instr.field,run_underlying hu,hf,asAgg,hr w' ha]
  ·exact h.elim
 case indexAddr t x i=>obtain⟨x',h,J⟩:=aU (S:=S) (w:=w) h;obtain⟨i',h,U⟩:=aU (S:=S) (w:=w) h;obtain⟨z,F,O⟩:=Dm hH h;exact⟨z,F,fun A=>lT.of_does (O A _ _ (J A _ (ev x (by simp))) (U A _ (ev i (by simp)))) (fun o E=>by simp[execOp,E])⟩
 case index t x i=>obtain⟨x',h,J⟩:=aU (S:=S) (w:=w) h;obtain⟨i',h,U⟩:=aU (S:=S) (w:=w) h;obtain⟨z,F,O⟩:=Ln (S:=S) (H:=H) (w:=w) h;exact⟨z,F,fun A=>lT.of_does (O A _ _ (J A _ (ev x (by simp))) (U A _ (ev i (by simp)))) (fun o E=>by simp[execOp,E])⟩
 case extract x i=>
  obtain⟨x',h,J⟩:=aU (S:=S) (w:=w) h;split at h
  ·rename_i vs;refine⟨_,h.2,fun A=>?_⟩;have e:=J A _ (ev x (by simp));simp only[rep]at e;obtain⟨l,e,hl⟩:=e;obtain⟨u,h1,h2⟩:=BT vs l i hl (h.1 A);exact⟨u,h2,fun w' _ o E=>by simp[execOp,E,e,Instr.extract,h1]⟩
  ·exact h.elim
 case lookup t x i ok=>obtain⟨x',h,J⟩:=aU (S:=S) (w:=w) h;obtain⟨i',h,U⟩:=aU (S:=S) (w:=w) h;obtain⟨z,F,O⟩:=HK (G:=G) hH h;exact⟨z,F,fun A=>lT.of_does (O A _ _ (J A _ (ev x (by simp))) (U A _ (ev i (by simp)))) (fun o E=>by simp[execOp,E])⟩
 case makeFunc f first cap=>
  cases f <;> simp only at h <;> try exact h.elim
  rename_i f;obtain⟨hf,h⟩:=h;subst hf;obtain⟨ys,F,ak⟩:=mW hF cap.toList (fun x J=>hb x (by simp[Array.mem_toList_iff.1 J])) h;refine⟨_,F,fun A=>⟨.func (.func f) #[] (cap.map a.eval),?_,fun w' _ o E=>by simp[execOp,E,Instr.makeFunc]⟩⟩;simp only[rep];exact⟨cap.toList.map a.eval,by rw[<-Array.toList_map],ak A⟩
def CA{H':aH}{ρ:Env}{a:Act}{t:TypeId}{x:Operand}{lo F m:Option Operand}(hb:∀y∈(Op.slice t x lo F m).operands,opB a.tmps.size y=true)(hF:FR S w ρ a)(Z:yK S w H)(h:gP P G ρ H (.slice t x lo F m) K):
  ∃z,K z/\(gt G->lT P S H' w a (.slice t x lo F m) z):=by
 have ev:=fun x O=>cJ hF (hb x O)
 simp only[gP]at h;simp only[Op.operands]at ev hb;cases m with
 | some m=>
  cases lo with
  | some lo=>exact h.elim
  | none=>
   cases F with
   | none=>exact h.elim
   | some F=>simp only at h;obtain⟨x',h,O⟩:=aU (S:=S) (w:=w) h;obtain⟨X,h,I⟩:=aU (S:=S) (w:=w) h;obtain⟨m',h,hm⟩:=aU (S:=S) (w:=w) h;obtain⟨z,U,M⟩:=DT (S:=S) (w:=w) (H:=H') h;exact⟨z,U,fun A=>lT.of_does (M A _ _ _ (O A _ (ev x (by simp))) (I A _ (ev F (by simp))) (hm A _ (ev m (by simp)))) (fun o T=>by simp[execOp,T])⟩
 | none=>
  simp only at h;obtain⟨x',h,O⟩:=aU (S:=S) (w:=w) h;cases lo with
  | some lo=>
   cases F with
   | some F=>
    obtain⟨Y,h,J⟩:=aU (S:=S) (w:=w) h;obtain⟨X,h,I⟩:=aU (S:=S) (w:=w) h;obtain⟨z,U,M⟩:=rE Z h;refine⟨z,U,fun A=>lT.of_does (M A _ (some (a.eval lo)) (some (a.eval F)) (O A _ (ev x (by simp))) ?_ (by simp) ?_ (by simp)) (fun o T=>by simp[execOp,T])⟩
    ·intro y E;injection E with E;subst E;exact⟨_,rfl,J A _ (ev lo (by simp))⟩
    ·intro y E;injection E with E;subst E;exact⟨_,rfl,I A _ (ev F (by simp))⟩
   | none=>obtain⟨Y,h,J⟩:=aU (S:=S) (w:=w) h;obtain⟨z,U,M⟩:=rE Z h;refine⟨z,U,fun A=>lT.of_does (M A _ (some (a.eval lo)) none (O A _ (ev x (by simp))) ?_ (by simp) (by simp) (by simp)) (fun o T=>by simp[execOp,T])⟩;intro y E;injection E with E;subst E;exact⟨_,rfl,J A _ (ev lo (by simp))⟩
  | none=>
   cases F with
   | some F=>obtain⟨X,h,I⟩:=aU (S:=S) (w:=w) h;obtain⟨z,U,M⟩:=rE Z h;refine⟨z,U,fun A=>lT.of_does (M A _ none (some (a.eval F)) (O A _ (ev x (by simp))) (by simp) (by simp) ?_ (by simp)) (fun o T=>by simp[execOp,T])⟩;intro y E;injection E with E;subst E;exact⟨_,rfl,I A _ (ev F (by simp))⟩
   | none=>exact h.elim
end
end Go.Aw
end
section
namespace Go.Aw
def W9:Array Value:=(Go.Lib.pow10Tab.map fun z=>Value.int .u64 z).toArray
def QG:Array Value:=(Go.Lib.deBruijn64tab.map fun z:Nat=>Value.int .u8 (z:Int)).toArray
def VV:List (Nat×Array Value):=[(1,W9),(3,QG)]
end Go.Aw
end
