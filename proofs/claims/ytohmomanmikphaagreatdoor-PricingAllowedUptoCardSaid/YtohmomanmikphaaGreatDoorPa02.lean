import Derived.MapKept
import Derived.Lib.ItoaMem
import Derived.Lib.TrailingZeros
import Derived.Test.YtohmomanmikphaaGreatDoorPa01
set_option linter.unusedSimpArgs false
set_option linter.unusedVariables false
set_option maxRecDepth 100000
section
namespace Go.Aw
open Go.RowKit
structure Sg where
 ro:Nat->Prop
 fz:Nat->Prop
 loc:Nat->Value
 sz:Nat->Nat
 N:Nat
mutual
def rep(S:Sg)(w:World):AV->Value->Prop
 | .v x,y=>y=x
 | .any,_=>True
 | .sl es,y=>∃ad n c,y=.slice ad n c/\es.length=n/\n<=c/\c<=maxLen/\(es=[]\/∃b o sz,ad=some ⟨b,o,none⟩/\S.ro b/\0<sz/\iG S w b sz o es)
 | .rp cs off,y=>∃b o,y=.pointer (some ⟨b,o+off,none⟩)/\S.ro b/\dC S w b o cs
 | .agg cs,y=>∃l:List Value,y=.agg l.toArray/\bG S w cs l/\∀u∈l,u.oneCell'=true
 | .tup vs,y=>∃l:List Value,y=.tuple l.toArray/\bG S w vs l
 | .os k,y=>k<S.N/\y=S.loc k/\∃a n c,y=.slice a n c
 | .op k i f,y=>k<S.N/\∃g n c,S.loc k=.slice (some ⟨g,0,none⟩) n c/\y=.pointer (some ⟨g,i*S.sz k+f,none⟩)
 | .gd g x,y=>(g=true->rep S w x y)/\(g=false->y=undef)
 | .nf x,y=>rep S w x y
 | .fn f cap,y=>∃l:List Value,y=.func (.func f) #[] l.toArray/\bG S w cap l
 | .om k,y=>k<S.N/\y=S.loc k/\∃g,y=.map (some g)
 | .cl es,y=>∃ad n,y=.slice ad n n/\es.length=n/\n<=maxLen/\(es=[]\/∃b o sz,ad=some ⟨b,o,none⟩/\S.ro b/\0<sz/\iG S w b sz o es)
 | .oz k a b,y=>k<S.N/\∃ad n c ad' cc,S.loc k=.slice ad n c/\y=.slice ad' (b-a) cc/\a<=b/\b<=n/\(a<b->∃g,ad=some ⟨g,0,none⟩/\ad'=some ⟨g,a*S.sz k,none⟩)/\(a=0->ad'=ad/\cc=c)
def bG(S:Sg)(w:World):List AV->List Value->Prop
 | [],l=>l=[]
 | x::r,l=>∃u t,l=u::t/\rep S w x u/\bG S w r t
def dC(S:Sg)(w:World)(b:Nat):Nat->List AV->Prop
 | _,[]=>True
 | o,x::r=>(∃u,w.cell? ⟨b,o,none⟩=some u/\u.oneCell'=true/\rep S w x u)/\dC S w b (o+1) r
def iG(S:Sg)(w:World)(b sz:Nat):Nat->List (List AV)->Prop
 | _,[]=>True
 | o,cs::r=>cs.length=sz/\dC S w b o cs/\iG S w b sz (o+sz) r
end
structure Sg.le(S S':Sg):Prop where
 ro:∀k,S.ro k->S'.ro k
 N:S.N<=S'.N
 loc:∀k,k<S.N->S'.loc k=S.loc k
 sz:∀k,k<S.N->S'.sz k=S.sz k
theorem Sg.le_refl(S:Sg):S.le S:=⟨fun _ h=>h,Nat.le_refl _,fun _ _=>rfl,fun _ _=>rfl⟩
theorem Sg.le_trans{S S' F:Sg}(h:S.le S')(I:S'.le F):S.le F:=
 ⟨fun k E=>I.ro k (h.ro k E),Nat.le_trans h.N I.N,fun k E=>(I.loc k (Nat.lt_of_lt_of_le E h.N)).trans (h.loc k E),
   fun k E=>(I.sz k (Nat.lt_of_lt_of_le E h.N)).trans (h.sz k E)⟩
def blk:Value->Option Nat
 | .slice (some a) _ _=>some a.block
 | .map (some g)=>some g
 | _=>none
def gE(S:Sg)(w w':World):Prop:=∀k,S.ro k->w'.heap[k]?=w.heap[k]?
theorem gE.refl(S:Sg)(w:World):gE S w w:=fun _ _=>rfl
section
variable{S S':Sg}{w w':World}
theorem gE.cell(h:gE S w w'){b o:Nat}(E:S.ro b):w'.cell? ⟨b,o,none⟩=w.cell? ⟨b,o,none⟩:=World.cell?_of_block (a:=⟨b,o,none⟩) (h b E)
mutual
theorem lI(E:S.le S')(I:gE S w w'):∀(x:AV) (y:Value),rep S w x y->rep S' w' x y
 | .v _,_,h=>h
 | .any,_,_=>trivial
 | .sl es,y,h=>by
   simp only[rep]at h |-;obtain⟨X,n,c,rfl,h1,Z,Y,J⟩:=h;refine⟨X,n,c,rfl,h1,Z,Y,?_⟩;rcases J with J|⟨b,o,sz,rfl,F,U,V⟩
   . exact .inl J
   . exact .inr ⟨b,o,sz,rfl,E.ro b F,U,BM E I F sz o es V⟩
 | .rp cs off,y,h=>by
   simp only[rep]at h |-;obtain⟨b,o,rfl,F,hc⟩:=h;exact⟨b,o,rfl,E.ro b F,yG E I F o cs hc⟩
 | .agg cs,y,h=>by
   simp only[rep]at h |-;obtain⟨l,rfl,O,h1⟩:=h;exact⟨l,rfl,dW E I cs l O,h1⟩
 | .tup vs,y,h=>by
   simp only[rep]at h |-;obtain⟨l,rfl,O⟩:=h;exact⟨l,rfl,dW E I vs l O⟩
 | .os k,y,h=>by
   simp only[rep]at h |-;exact⟨Nat.lt_of_lt_of_le h.1 E.N,by rw[E.loc k h.1];exact h.2⟩
 | .op k i f,y,h=>by
   simp only[rep]at h |-;refine⟨Nat.lt_of_lt_of_le h.1 E.N,?_⟩;rw[E.loc k h.1,E.sz k h.1];exact h.2
 | .gd g x,y,h=>by
   simp only[rep]at h |-;exact⟨fun hg=>lI E I x y (h.1 hg),h.2⟩
 | .nf x,y,h=>by
   simp only[rep]at h |-;exact lI E I x y h
 | .fn f cap,y,h=>by
   simp only[rep]at h |-;obtain⟨l,rfl,O⟩:=h;exact⟨l,rfl,dW E I cap l O⟩
 | .om k,y,h=>by
   simp only[rep]at h |-;exact⟨Nat.lt_of_lt_of_le h.1 E.N,by rw[E.loc k h.1];exact h.2⟩
 | .oz k a b,y,h=>by
   simp only[rep]at h |-;refine⟨Nat.lt_of_lt_of_le h.1 E.N,?_⟩;rw[E.loc k h.1,E.sz k h.1];exact h.2
 | .cl es,y,h=>by
   simp only[rep]at h |-;obtain⟨X,n,rfl,h1,Y,J⟩:=h;refine⟨X,n,rfl,h1,Y,?_⟩;rcases J with J|⟨b,o,sz,rfl,F,U,V⟩
   . exact .inl J
   . exact .inr ⟨b,o,sz,rfl,E.ro b F,U,BM E I F sz o es V⟩
theorem dW(F:S.le S')(E:gE S w w'):∀(x:List AV) (l:List Value),bG S w x l->bG S' w' x l
 | [],_,h=>h
 | x::r,l,h=>by
   simp only[bG]at h |-;obtain⟨u,t,rfl,h1,I⟩:=h;exact⟨u,t,rfl,lI F E x u h1,dW F E r t I⟩
theorem yG(I:S.le S')(E:gE S w w'){b:Nat}(F:S.ro b):∀(o:Nat) (x:List AV),dC S w b o x->dC S' w' b o x
 | _,[],_=>trivial
 | o,x::r,h=>by
   simp only[dC]at h |-;obtain⟨⟨u,h1,J,O⟩,U⟩:=h;exact⟨⟨u,by rw[E.cell F];exact h1,J,lI I E x u O⟩,yG I E F (o+1) r U⟩
theorem BM(I:S.le S')(F:gE S w w'){b:Nat}(E:S.ro b)(sz:Nat):∀(o:Nat) (x:List (List AV)),iG S w b sz o x->iG S' w' b sz o x
 | _,[],_=>trivial
 | o,x::r,h=>by
   simp only[iG]at h |-;exact⟨h.1,yG I F E o x h.2.1,BM I F E sz (o+sz) r h.2.2⟩
end
theorem AQ:∀(cs:List AV) (o j:Nat) {b:Nat},dC S w b o cs->j<cs.length->∃u,w.cell? ⟨b,o+j,none⟩=some u/\u.oneCell'=true/\rep S w (cs.getD j .any) u
 | [],_,_,_,_,h=>by simp at h
 | x::r,o,0,b,h,_=>by
   simp only[dC]at h;simpa using h.1
 | x::r,o,j+1,b,h,hj=>by
   simp only[dC]at h;have:=AQ r (o+1) j h.2 (by simpa using hj);rw[show o+1+j=o+(j+1)by omega]at this;simpa using this
theorem yH:∀(cs:List AV) (o j:Nat) {b:Nat},dC S w b o cs->dC S w b (o+j) (cs.drop j)
 | [],_,_,_,_=>by simp[dC]
 | x::r,o,0,b,h=>by simpa using h
 | x::r,o,j+1,b,h=>by
   simp only[dC]at h;have:=yH r (o+1) j h.2;rw[show o+1+j=o+(j+1)by omega]at this;simpa using this
theorem zD:∀(cs:List AV) (o j:Nat) {b:Nat},dC S w b o cs->dC S w b o (cs.take j)
 | [],_,_,_,_=>by simp[dC]
 | x::r,o,0,b,h=>by simp[dC]
 | x::r,o,j+1,b,h=>by
   simp only[dC,List.take_succ_cons]at h |-;exact⟨h.1,zD r (o+1) j h.2⟩
theorem mR:∀(cs:List AV) (o:Nat) {b:Nat},dC S w b o cs->∃l:List Value,l.length=cs.length/\bG S w cs l/\(∀u∈l,u.oneCell'=true)/\∀j u,l[j]?=some u->w.cell? ⟨b,o+j,none⟩=some u
 | [],_,_,_=>⟨[],rfl,by simp[bG],by simp,by simp⟩
 | x::r,o,b,h=>by
   simp only[dC]at h;obtain⟨⟨u,h1,I,V⟩,X⟩:=h;obtain⟨l,U,O,J,F⟩:=mR r (o+1) X;refine⟨u::l,by simp[U],?_,?_,?_⟩
   . simp only[bG]
     exact⟨u,l,rfl,V,O⟩
   . intro v E
     rcases List.mem_cons.1 E with rfl|E
     . exact I
     . exact J v E
   . intro j v E
     cases j with
     | zero=>simp at E;subst E;simpa using h1
     | succ j=>rw[show o+(j+1)=o+1+j by omega];exact F j v (by simpa using E)
theorem sV:∀(es:List (List AV)) (o i:Nat) {b sz:Nat},iG S w b sz o es->i<es.length->(es.getD i []).length=sz/\dC S w b (o+i*sz) (es.getD i [])
 | [],_,_,_,_,_,h=>by simp at h
 | x::r,o,0,b,sz,h,_=>by
   simp only[iG]at h;simpa using⟨h.1,h.2.1⟩
 | x::r,o,i+1,b,sz,h,hi=>by
   simp only[iG]at h;have:=sV r (o+sz) i h.2.2 (by simpa using hi);rw[show o+sz+i*sz=o+(i+1)*sz by rw[Nat.add_mul];omega]at this;simpa using this
theorem B8:∀(es:List (List AV)) (o i:Nat) {b sz:Nat},iG S w b sz o es->iG S w b sz (o+i*sz) (es.drop i)
 | [],_,_,_,_,_=>by simp[iG]
 | x::r,o,0,b,sz,h=>by simpa using h
 | x::r,o,i+1,b,sz,h=>by
   simp only[iG]at h;have:=B8 r (o+sz) i h.2.2;rw[show o+sz+i*sz=o+(i+1)*sz by rw[Nat.add_mul];omega]at this;simpa using this
theorem yT:∀(es:List (List AV)) (o i:Nat) {b sz:Nat},iG S w b sz o es->iG S w b sz o (es.take i)
 | [],_,_,_,_,_=>by simp[iG]
 | x::r,o,0,b,sz,h=>by simp[iG]
 | x::r,o,i+1,b,sz,h=>by
   simp only[iG,List.take_succ_cons]at h |-;exact⟨h.1,h.2.1,yT r _ i h.2.2⟩
theorem tY:∀(xs E:List AV) (o:Nat) {b:Nat},dC S w b o (xs++E)↔dC S w b o xs/\dC S w b (o+xs.length) E
 | [],E,o,b=>by simp[dC]
 | x::r,E,o,b=>by
   simp only[List.cons_append,dC,tY r E (o+1),List.length_cons,show o+1+r.length=o+(r.length+1)by omega,and_assoc]
theorem yA:∀(es:List (List AV)) (o:Nat) {b sz:Nat},iG S w b sz o es->dC S w b o es.flatten
 | [],_,_,_,_=>by simp[dC]
 | x::r,o,b,sz,h=>by
   simp only[iG]at h;rw[List.flatten_cons,tY];refine⟨h.2.1,?_⟩;rw[h.1];exact yA r _ h.2.2
theorem rA:∀(es:List (List AV)) (o:Nat) {b sz:Nat},(∀cs∈es,cs.length=sz)->dC S w b o es.flatten->iG S w b sz o es
 | [],_,_,_,_,_=>by simp[iG]
 | x::r,o,b,sz,hl,h=>by
   rw[List.flatten_cons,tY]at h;have E:=hl x (by simp);rw[E]at h;simp only[iG];exact⟨E,h.1,rA r _ (fun cs F=>hl cs (by simp[F])) h.2⟩
theorem pA:∀(es:List (List AV)) {sz:Nat},(∀cs∈es,cs.length=sz)->es.flatten.length=es.length*sz
 | [],_,_=>by simp
 | x::r,sz,hl=>by
   rw[List.flatten_cons,List.length_append,hl x (by simp),pA r (fun cs E=>hl cs (by simp[E])),List.length_cons,Nat.add_mul];omega
theorem iC:∀(x:List AV) (l:List Value),bG S w x l->l.length=x.length
 | [],l,h=>by simp only[bG]at h;simp[h]
 | x::r,l,h=>by
   simp only[bG]at h;obtain⟨u,t,rfl,_,E⟩:=h;simp[iC r t E]
theorem CL:∀(x:List AV) (l:List Value) (j:Nat),bG S w x l->j<x.length->∃u,l[j]?=some u/\rep S w (x.getD j .any) u
 | [],_,_,_,h=>by simp at h
 | x::r,l,j,h,hj=>by
   simp only[bG]at h;obtain⟨u,t,rfl,h1,E⟩:=h;cases j with
   | zero=>exact⟨u,by simp,by simpa using h1⟩
   | succ j=>
     obtain⟨v,I,F⟩:=CL r t j E (by simpa using hj);exact⟨v,by simpa using I,by simpa using F⟩
theorem dO:∀(x y:List AV) (l m:List Value),bG S w x l->bG S w y m->bG S w (x++y) (l++m)
 | [],y,l,m,h,h'=>by simp only[bG]at h;subst h;simpa using h'
 | x::r,y,l,m,h,h'=>by
   simp only[bG]at h;obtain⟨u,t,rfl,h1,E⟩:=h;simp only[List.cons_append,bG];exact⟨u,t++m,rfl,h1,dO r y t m E h'⟩
theorem xA:∀(x:List AV) (l:List Value) (j:Nat),bG S w x l->bG S w (x.drop j) (l.drop j)
 | [],l,j,h=>by simp only[bG]at h;subst h;simp[bG]
 | x::r,l,j,h=>by
   cases j with
   | zero=>simpa using h
   | succ j=>
     simp only[bG]at h;obtain⟨u,t,rfl,_,E⟩:=h;simpa using xA r t j E
theorem sY:∀(x:List AV) (l:List Value) (j:Nat),bG S w x l->bG S w (x.take j) (l.take j)
 | [],l,j,h=>by simp only[bG]at h;subst h;simp[bG]
 | x::r,l,j,h=>by
   cases j with
   | zero=>simp[bG]
   | succ j=>
     simp only[bG]at h;obtain⟨u,t,rfl,h1,E⟩:=h;simp only[List.take_succ_cons,bG];exact⟨u,t.take j,rfl,h1,sY r t j E⟩
theorem jQ:∀(x:List AV) (l:List Value) (o:Nat) {b:Nat},bG S w x l->(∀u∈l,u.oneCell'=true)->(∀j u,l[j]?=some u->w.cell? ⟨b,o+j,none⟩=some u)->dC S w b o x
 | [],_,_,_,_,_,_=>by simp[dC]
 | x::r,l,o,b,h,h1,hc=>by
   simp only[bG]at h;obtain⟨u,t,rfl,I,F⟩:=h;simp only[dC];refine⟨⟨u,by simpa using hc 0 u (by simp),h1 u (by simp),I⟩,jQ r t (o+1) F (fun v E=>h1 v (by simp[E])) fun j v E=>?_⟩;rw[show o+1+j=o+(j+1)by omega];exact hc (j+1) v (by simpa using E)
end
end Go.Aw
end
section
namespace Go.Aw
open Go.RowKit
def lK(S:Sg)(w:World):Nat->List (List AV)->List MapEntry->Prop
 | _,[],ms=>ms=[]
 | i,cs::r,ms=>∃m t,ms=m::t/\m.born=i/\bG S w cs [m.key,m.val]/\lK S w (i+1) r t
def MK(S:Sg)(w:World)(k:Nat)(r:Row):Prop:=∃xs,w.ownsRow 0 r.e r.sz (S.loc k) r.es.length xs/\bG S w r.es.flatten xs/\∀u∈xs,u.oneCell'=true
def Zn(S:Sg)(w:World)(k:Nat)(r:Row):Prop:=∃g ms,S.loc k=.map (some g)/\w.heap[g]?=some (.map (List.toArray ms) ms.length)/\lK S w 0 r.es ms/\r.sz=2
theorem aoV(a:Option Addr)(n c:Nat):blk (.slice a n c)=(Value.slice a n c).ownBlock:=by cases a <;> rfl
structure RowOK(S:Sg)(w:World)(k:Nat)(r:Row):Prop where
 lt:k<S.N
 sz:r.sz=S.sz k
 pos:0<r.sz
 len:∀cs∈r.es,cs.length=r.sz
 own:MK S w k r\/Zn S w k r
def AK(S:Sg)(w:World)(H:aK):Prop:=∀k r,H k=some r->RowOK S w k r
theorem RowOK.sl{S:Sg}{w:World}{k:Nat}{r:Row}(h:RowOK S w k r){a:Option Addr}{n c:Nat}(E:S.loc k=.slice a n c):MK S w k r:=by
 rcases h.own with h1|⟨g,F,h1,_⟩
 . exact h1
 . rw[E]at h1;cases h1
theorem RowOK.mp{S:Sg}{w:World}{k:Nat}{r:Row}(h:RowOK S w k r){g:Nat}(E:S.loc k=.map (some g)):Zn S w k r:=by
 rcases h.own with⟨xs,F,_⟩|h1
 . rcases F.2 with⟨hv,_⟩|⟨_,_,_,hv,_⟩ <;> (rw[E]at hv;cases hv)
 . exact h1
structure Agree(S:Sg)(H:aK)(w w':World):Prop where
 kept:gE S w w'
 own:∀k r,H k=some r->∀g,blk (S.loc k)=some g->w'.heap[g]?=w.heap[g]?
theorem Agree.refl(S:Sg)(H:aK)(w:World):Agree S H w w:=⟨gE.refl S w,fun _ _ _ _ _=>rfl⟩
def yK(P:Program)(S:Sg)(H:aK)(w:World)(z:AV)(e:Sem Value):Prop:=
 ∃v,rep S w z v/\∀w',Agree S H w w'->e.run P w'=.ok v w'
section
variable{P:Program}{S:Sg}{H:aK}{w:World}{G:Option Bool}{K:AV->Prop}
theorem mK{x:Value}:rep S w (.v x) x:=by simp only[rep]
theorem xC{t:TypeId}{l:Option Nat}(h:ldT P t=some l):∃d,P.underlying t=some d /\
   match l with
   | none=>(∀fs,d≠.struct fs)/\∀n e,d≠.array n e
   | some n=>((∃fs,d=.struct fs)\/∃m e,d=.array m e)/\∃i,P.info? t=some i/\i.size=n:=by
 unfold ldT at h;cases E:P.underlying t with
 | none=>rw[E]at h;simp at h
 | some d=>
   refine⟨d,rfl,?_⟩;rw[E]at h;cases hi:P.info? t with
   | none=>rw[hi]at h;cases d <;> simp at h
   | some i=>
     rw[hi]at h;cases d <;> simp at h <;> subst h <;> simp
theorem sC{t:TypeId}{l:Option Nat}(h:ldT P t=some l)(w:World):(isAgg t).run P w=.ok l.isSome w:=by
 obtain⟨d,F,E⟩:=xC h;cases l with
 | none=>
   obtain⟨h1,I⟩:=E;simp only[isAgg,Sem.run_bind,run_underlying F,Result.andThen];cases d <;> simp_all
 | some n=>
   obtain⟨h1,_⟩:=E;simp only[isAgg,Sem.run_bind,run_underlying F,Result.andThen];rcases h1 with⟨fs,rfl⟩|⟨m,e,rfl⟩ <;> simp
theorem vV{t:TypeId}{n:Nat}(h:ldT P t=some (some n))(w:World):(sizeOf t).run P w=.ok n w:=by
 obtain⟨d,F,E⟩:=xC h;obtain⟨_,i,hi,rfl⟩:=E;simp[sizeOf,typeInfo,hi]
theorem zM{t:TypeId}(h:ldT P t=some none){a:Addr}{v:Value}(E:w.cell? a=some v):(loadVar t a).run P w=.ok v w:=by
 simp[loadVar,sC h,E]
theorem wF{t:TypeId}{l:List Value}(h:ldT P t=some (some l.length)){b o:Nat}(E:∀j v,l[j]?=some v->w.cell? ⟨b,o+j,none⟩=some v):
   (loadVar t ⟨b,o,none⟩).run P w=.ok (.agg l.toArray) w:=by
 have:=run_loadCells_list (P:=P) w ⟨b,o,none⟩ l (fun j v F=>by rw[Addr.add_lit];exact E j v F);simp[loadVar,sC h,vV h,this]
theorem RowOK.cells{k:Nat}{r:Row}(h:RowOK S w k r){Z:Option Addr}{O X:Nat}(J:S.loc k=.slice Z O X)(E:r.es≠[]):∃g n c,S.loc k=.slice (some ⟨g,0,none⟩) n c/\dC S w g 0 r.es.flatten/\n=r.es.length:=by
 obtain⟨xs,I,Y,h1⟩:=h.sl J;rcases I.2 with⟨_,V⟩|⟨g,cap,cur,F,_⟩
 . exact absurd (List.eq_nil_of_length_eq_zero V) E
 . refine⟨g,_,cap,F,?_,rfl⟩
   refine jQ _ xs 0 Y h1 fun j u U=>?_
   have:=I.cells (g:=g) (by rw[F];rfl) j u U
   rwa [Addr.add_lit]at this
theorem RowOK.els{k:Nat}{r:Row}(h:RowOK S w k r){V:Option Addr}{J I:Nat}(O:S.loc k=.slice V J I)(E:r.es≠[]):∃g n c,S.loc k=.slice (some ⟨g,0,none⟩) n c/\iG S w g r.sz 0 r.es/\n=r.es.length:=by
 obtain⟨g,n,c,h1,F,U⟩:=h.cells O E;exact⟨g,n,c,h1,rA _ _ h.len F,U⟩
theorem Agree.cell{w':World}(E:Agree S H w w'){b o:Nat}{u:Value}(F:S.ro b)(h:w.cell? ⟨b,o,none⟩=some u):w'.cell? ⟨b,o,none⟩=some u:=(E.kept.cell F).trans h
theorem Agree.cellOwn{w':World}(E:Agree S H w w'){k g n c o:Nat}{r:Row}{u:Value}(I:H k=some r)(F:S.loc k=.slice (some ⟨g,0,none⟩) n c)(h:w.cell? ⟨g,o,none⟩=some u):w'.cell? ⟨g,o,none⟩=some u:=by
 have:=E.own k r I g (by rw[F];rfl);exact(World.cell?_of_block (a:=⟨g,o,none⟩) this).trans h
theorem Et{t:TypeId}{l:Option Nat}{x:AV}(X:ldT P t=some l)(hH:AK S w H)(h:pM G H l x K):
   ∃z,K z/\(gt G->∀u,rep S w x u->yK P S H w z (Instr.loadAt t u)):=by
 unfold pM at h;split at h
 . rename_i cs off
   cases l with
   | none=>
     refine⟨_,h.2,fun V u J=>?_⟩;simp only[rep]at J;obtain⟨b,o,rfl,hb,hc⟩:=J;obtain⟨v,h1,_,h3⟩:=AQ cs o off hc (h.1 V);refine⟨v,h3,fun w' O=>?_⟩;simp[Instr.loadAt,Instr.sureAddr,zM X (O.cell hb h1)]
   | some n=>
     refine⟨_,h.2,fun V u J=>?_⟩;simp only[rep]at J;obtain⟨b,o,rfl,hb,hc⟩:=J;obtain⟨l,I,e2,Y,Z⟩:=mR _ _ (zD _ _ n (yH cs o off hc));have aa:=h.1 V;have hn:l.length=n:=by rw[I];simp;omega
     refine⟨.agg l.toArray,by simp only[rep];exact⟨l,rfl,e2,Y⟩,fun w' O=>?_⟩;rw[<-hn]at X;simp[Instr.loadAt,Instr.sureAddr,wF X (fun j v hj=>O.cell hb (Z j v hj))]
 . rename_i k i f
   split at h
   . rename_i r hk
     have hr:=hH k r hk;cases l with
     | none=>
       refine⟨_,h.2,fun V u J=>?_⟩;simp only[rep]at J;obtain⟨_,g,n,c,E,rfl⟩:=J;obtain⟨hi,hf⟩:=h.1 V;have U:r.es≠[]:=fun e=>by rw[e]at hi;simp at hi
       obtain⟨g',n',c',F,he,_⟩:=hr.els E U;rw[E]at F;injection F with I e2 Y;injection I with I;injection I with I;subst I;obtain⟨Z,e5⟩:=sV _ 0 i he hi;obtain⟨v,h1,_,h3⟩:=AQ _ _ f e5 (by rw[Z];exact hf);refine⟨v,h3,fun w' O=>?_⟩;rw[<-hr.sz];rw[Nat.zero_add]at h1;simp[Instr.loadAt,Instr.sureAddr,zM X (O.cellOwn hk E h1)]
     | some m=>
       refine⟨_,h.2,fun V u J=>?_⟩;simp only[rep]at J;obtain⟨_,g,n,c,E,rfl⟩:=J;obtain⟨hi,hf⟩:=h.1 V;have U:r.es≠[]:=fun e=>by rw[e]at hi;simp at hi
       obtain⟨g',n',c',F,he,_⟩:=hr.els E U;rw[E]at F;injection F with I e2 Y;injection I with I;injection I with I;subst I;obtain⟨Z,e5⟩:=sV _ 0 i he hi;obtain⟨l,I,e2,Y,e6⟩:=mR _ _ (zD _ _ m (yH _ _ f e5));have hn:l.length=m:=by rw[I,List.length_take,List.length_drop,Z];omega
       refine⟨.agg l.toArray,by simp only[rep];exact⟨l,rfl,e2,Y⟩,fun w' O=>?_⟩;rw[<-hn]at X;rw[<-hr.sz];rw[Nat.zero_add]at e6;simp[Instr.loadAt,Instr.sureAddr,wF X (fun j v hj=>O.cellOwn hk E (e6 j v hj))]
   . exact h.elim
 . exact h.elim
theorem pQ{t:TypeId}(h:ldT P t=some none){l:List Value}{o:Nat}{u:Value}(E:l[o]?=some u):(part t l.toArray o).run P w=.ok u w:=by
 simp[part,sC h,E]
theorem IZ{t:TypeId}{n:Nat}(h:ldT P t=some (some n)){l:List Value}{o:Nat}:(part t l.toArray o).run P w=.ok (.agg ((l.drop o).take n).toArray) w:=by
 simp[part,sC h,vV h,List.extract_eq_take_drop]
theorem Eo{t:TypeId}{l:Option Nat}{x:AV}{off:Nat}(F:ldT P t=some l)(h:apart G off l x K):
   ∃z,K z/\(gt G->∀u,rep S w x u->∃cs:Array Value,u=.agg cs/\yK P S H w z (part t cs off)):=by
 unfold apart at h;split at h
 . rename_i cs
   cases l with
   | none=>
     refine⟨_,h.2,fun I u E=>?_⟩;simp only[rep]at E;obtain⟨l,rfl,h1,_⟩:=E;obtain⟨v,U,O⟩:=CL cs l off h1 (h.1 I);exact⟨_,rfl,v,O,fun w' _=>pQ F U⟩
   | some n=>
     refine⟨_,h.2,fun I u E=>?_⟩;simp only[rep]at E;obtain⟨l,rfl,h1,J⟩:=E;refine⟨_,rfl,_,?_,fun w' _=>IZ F⟩;simp only[rep];exact⟨_,rfl,sY _ _ n (xA _ _ off h1),fun u E=>J u (List.mem_of_mem_drop (List.mem_of_mem_take E))⟩
 . exact h.elim
theorem By{t:TypeId}{f o:Nat}{l:Option Nat}(h:aO P t f=some (o,l)):
   ∃fs E i,P.underlying t=some (.struct fs)/\fs[f]?=some E/\E.offset=o/\P.info? E.type=some i/\i.size≠0/\ldT P E.type=some l:=by
 unfold aO at h;cases J:P.underlying t with
 | none=>simp[J]at h
 | some d=>
   cases d <;> simp only[J]at h <;> try (simp at h;done)
   rename_i fs
   cases I:fs[f]? with
   | none=>simp[I]at h
   | some E=>
     simp only[I]at h;cases hi:P.info? E.type with
     | none=>simp[hi]at h
     | some i=>
       simp only[hi]at h;split at h
       . simp at h
       . rename_i O
         cases F:ldT P E.type with
         | none=>simp[F]at h
         | some l'=>
           simp[F]at h;obtain⟨rfl,rfl⟩:=h;exact⟨fs,E,i,rfl,I,rfl,hi,O,F⟩
theorem El{t:TypeId}{f o:Nat}{l:Option Nat}(h:aO P t f=some (o,l))(b p:Nat)(w:World):
   (Instr.fieldAt t (.pointer (some ⟨b,p,none⟩)) f).run P w=.ok (.pointer (some ⟨b,p+o,none⟩)) w:=by
 obtain⟨fs,J,i,I,F,rfl,hi,E,_⟩:=By h;simp[Instr.fieldAt,run_underlying I,F,Instr.sureAddr,fieldPlace,sizeOf,typeInfo,hi,E,Addr.add_lit]
theorem DF{t:TypeId}{f:Nat}{x:AV}(h:kC P t f x K):
   ∃z,K z/\(gt G->∀u,rep S w x u->yK P S H w z (Instr.fieldAt t u f)):=by
 unfold kC at h;split at h
 . rename_i cs off
   split at h
   . rename_i o l F
     refine⟨_,h,fun _ u E=>?_⟩;simp only[rep]at E;obtain⟨b,p,rfl,I,O⟩:=E;refine⟨_,?_,fun w' _=>El F b (p+off) w'⟩;simp only[rep];exact⟨b,p,by rw[Nat.add_assoc],I,O⟩
   . exact h.elim
 . rename_i k i g
   split at h
   . rename_i o l F
     refine⟨_,h,fun _ u E=>?_⟩;simp only[rep]at E;obtain⟨h1,b,n,c,J,rfl⟩:=E;refine⟨_,?_,fun w' _=>El F b _ w'⟩;simp only[rep];exact⟨h1,b,n,c,J,by rw[Nat.add_assoc]⟩
   . exact h.elim
 . exact h.elim
theorem jD{t:TypeId}{e sz E:Nat}(h:cF P t=some (e,sz,E)):
   ∃i z,P.underlying t=some (.slice e)/\P.info? e=some i/\i.size=sz/\i.bytes=E/\0<sz/\0<E/\i.zero=some z/\z.cells.size=sz:=by
 unfold cF at h;cases O:P.underlying t with
 | none=>simp[O]at h
 | some d=>
   cases d <;> simp only[O]at h <;> try (simp at h;done)
   rename_i U
   cases hi:P.info? U with
   | none=>simp[hi]at h
   | some i=>
     simp only[hi]at h;split at h
     . simp at h
     . rename_i J
       simp at h;obtain⟨rfl,rfl,rfl⟩:=h;simp only[not_or,ne_eq,Decidable.not_not]at J;obtain⟨h1,V,I⟩:=J;cases F:i.zero with
       | none=>simp[F]at I
       | some z=>
         simp[F]at I;exact⟨i,z,rfl,hi,rfl,rfl,by omega,by omega,F,I⟩
theorem JX{t:TypeId}{n s:Nat}{l:Option Nat}(h:BW P t=some (n,s,l)):
   ∃e i,P.underlying t=some (.array n e)/\P.info? e=some i/\i.size=s/\s≠0/\ldT P e=some l:=by
 unfold BW at h;cases F:P.underlying t with
 | none=>simp[F]at h
 | some d=>
   cases d <;> simp only[F]at h <;> try (simp at h;done)
   rename_i m e
   cases hi:P.info? e with
   | none=>simp[hi]at h
   | some i=>
     simp only[hi]at h;split at h
     . simp at h
     . rename_i I
       cases E:ldT P e with
       | none=>simp[E]at h
       | some l'=>
         simp[E]at h;obtain⟨rfl,rfl,rfl⟩:=h;exact⟨e,i,rfl,hi,rfl,I,E⟩
theorem zZ{t:TypeId}{e sz E:Nat}(h:cF P t=some (e,sz,E))(b o len cap:Nat)(k:IntKind)(i:Int)(h0:0<=i)(h1:i<len)(w:World):
   (Instr.indexAt t (.slice (some ⟨b,o,none⟩) len cap) (.int k i)).run P w=.ok (.pointer (some ⟨b,o+i.toNat*sz,none⟩)) w:=by
 obtain⟨I,z,F,hi,rfl,_⟩:=jD h;simp[Instr.indexAt,run_underlying F,asIntOf,h0,h1,sizeOf,typeInfo,hi,Addr.add_lit]
theorem zK{t:TypeId}{n s:Nat}{l:Option Nat}(h:BW P t=some (n,s,l))(b o:Nat)(k:IntKind)(i:Int)(h0:0<=i)(h1:i<n)(w:World):
   (Instr.indexAt t (.pointer (some ⟨b,o,none⟩)) (.int k i)).run P w=.ok (.pointer (some ⟨b,o+i.toNat*s,none⟩)) w:=by
 obtain⟨e,E,F,hi,rfl,_⟩:=JX h;simp[Instr.indexAt,run_underlying F,asIntOf,h0,h1,Instr.sureAddr,sizeOf,typeInfo,hi,Addr.add_lit]
theorem DT{t:TypeId}{x i:AV}(hH:AK S w H)(h:gG P G H t x i K):
   ∃z,K z/\(gt G->∀u v,rep S w x u->rep S w i v->yK P S H w z (Instr.indexAt t u v)):=by
 unfold gG at h;split at h
 . rename_i es k n
   split at h
   . rename_i e sz O he
     refine⟨_,h.2,fun V u v I J=>?_⟩;obtain⟨⟨h0,h1⟩,h2⟩:=h.1 V;simp only[rep]at I J;subst J;obtain⟨ad,m,c,rfl,e1,_,_,e2⟩:=I;rcases e2 with rfl|⟨b,o,ac,rfl,Y,_,X⟩
     . simp at h1;omega
     . have F:n.toNat<es.length:=by omega
       obtain⟨e3,e4⟩:=sV es o n.toNat X F;have ab:ac=sz:=by rw[<-e3,h2]
       subst ab;refine⟨_,?_,fun w' _=>zZ he b o m c k n h0 (by omega) w'⟩;simp only[rep];exact⟨b,_,by rw[Nat.add_zero],Y,e4⟩
   . exact h.elim
 . rename_i k ik n
   split at h
   . rename_i r e sz O hk he
     refine⟨_,h.2,fun V u v I J=>?_⟩;obtain⟨⟨h0,h1⟩,h2⟩:=h.1 V;have hr:=hH k r hk;have aa:r.es≠[]:=fun e=>by rw[e]at h1;simp at h1;omega
     simp only[rep]at I J;subst J;obtain⟨F,rfl,_,_,_,U⟩:=I;obtain⟨g,m,c,E,_,hm⟩:=hr.els U aa;rw[E];refine⟨_,?_,fun w' _=>zZ he g 0 m c ik n h0 (by omega) w'⟩;simp only[rep];exact⟨F,g,m,c,E,by rw[<-hr.sz,h2];simp⟩
   . exact h.elim
 . rename_i cs off k n
   split at h
   . rename_i m s l Z
     refine⟨_,h.2,fun V u v I J=>?_⟩;obtain⟨h0,h1⟩:=h.1 V;simp only[rep]at I J;subst J;obtain⟨b,o,rfl,Y,hc⟩:=I;refine⟨_,?_,fun w' _=>zK Z b (o+off) k n h0 h1 w'⟩;simp only[rep];exact⟨b,o,by rw[Nat.add_assoc],Y,hc⟩
   . exact h.elim
 . rename_i k j f ik n
   split at h
   . rename_i m s l Z
     refine⟨_,h.2,fun V u v I J=>?_⟩;obtain⟨h0,h1⟩:=h.1 V;simp only[rep]at I J;subst J;obtain⟨F,g,n',c,E,rfl⟩:=I;refine⟨_,?_,fun w' _=>zK Z g _ ik n h0 h1 w'⟩;simp only[rep];exact⟨F,g,n',c,E,by rw[Nat.add_assoc]⟩
   . exact h.elim
 . exact h.elim
theorem AM{t:TypeId}(h:cT P t=true):∃e,P.underlying t=some (.slice e):=by
 unfold cT at h;split at h
 . rename_i e E;exact⟨e,E⟩
 . simp at h
theorem gH{t:TypeId}(h:eJ P t=true):P.underlying t=some .string:=by
 unfold eJ at h;split at h
 . rename_i E;exact E
 . simp at h
theorem RL{t:TypeId}(h:Bi P t=true):P.underlying t=some .bool:=by
 unfold Bi at h;split at h
 . rename_i E;exact E
 . simp at h
theorem F2{t ty:TypeId}{x:AV}(U:AK S w H)(h:Iw P H t x K):
   ∃z,K z/\(gt G->∀u,rep S w x u->yK P S H w z (Builtin.len_ #[t] ty #[u])):=by
 unfold Iw at h;split at h
 . rename_i es
   split at h
   . rename_i I
     obtain⟨e,J⟩:=AM I;refine⟨_,h,fun _ u E=>?_⟩;simp only[rep]at E;obtain⟨ad,m,c,rfl,Y,_⟩:=E;refine⟨_,mK,fun w' _=>?_⟩;simp[Builtin.len_,run_underlying J,goInt,Y]
   . exact h.elim
 . rename_i k
   split at h
   . rename_i r X
     split at h
     . rename_i I
       obtain⟨e,J⟩:=AM I;refine⟨_,h,fun _ u E=>?_⟩;simp only[rep]at E;obtain⟨_,rfl,_,_,_,F⟩:=E;obtain⟨xs,Z,_⟩:=(U k r X).sl F;refine⟨_,mK,fun w' _=>?_⟩;rcases Z.2 with⟨O,V⟩|⟨g,cap,cur,O,_⟩
       . simp[Builtin.len_,run_underlying J,goInt,O,V]
       . simp[Builtin.len_,run_underlying J,goInt,O]
     . exact h.elim
   . exact h.elim
 . rename_i s
   split at h
   . rename_i I
     refine⟨_,h,fun _ u E=>?_⟩;simp only[rep]at E;subst E;refine⟨_,mK,fun w' _=>?_⟩;simp[Builtin.len_,run_underlying (gH I),goInt]
   . exact h.elim
 . exact h.elim
theorem HZ{x y:AV}{tys:Array TypeId}{ty:TypeId}(h:TH x y K):
   ∃z,K z/\(gt G->∀u v,rep S w x u->rep S w y v->yK P S H w z (Builtin.max_ tys ty #[u,v])):=by
 unfold TH at h;split at h
 . refine⟨_,h,fun _ u v F E=>?_⟩
   simp only[rep]at F E;subst F;subst E;exact⟨_,mK,fun w' _=>by simp[Builtin.max_,Builtin.max2,fP]⟩
 . exact h.elim
theorem GB{x y:AV}{tys:Array TypeId}{ty:TypeId}(h:RB x y K):
   ∃z,K z/\(gt G->∀u v,rep S w x u->rep S w y v->yK P S H w z (Builtin.min_ tys ty #[u,v])):=by
 unfold RB at h;split at h
 . refine⟨_,h,fun _ u v F E=>?_⟩
   simp only[rep]at F E;subst F;subst E;exact⟨_,mK,fun w' _=>by simp[Builtin.min_,Builtin.min2,aeZ]⟩
 . exact h.elim
end
end Go.Aw
end
section
namespace Go.Aw
open Go.RowKit
section
variable{P:Program}{S:Sg}{H:aK}{w:World}{G:Option Bool}{K:AV->Prop}
theorem iY{z:AV}{e:Sem Value}{v:Value}(E:rep S w z v)(h:∀w',e.run P w'=.ok v w'):yK P S H w z e:=⟨v,E,fun w' _=>h w'⟩
theorem mM{t:TypeId}{c:Nat}(h:uK P t=some c):(c=0/\∃k,P.underlying t=some (.int k))\/(c=1/\P.underlying t=some .string)\/(c=2/\P.underlying t=some .bool):=by
 unfold uK at h;split at h <;> simp_all
theorem Ug{t:TypeId}{c:Nat}(h:uK P t=some c)(hi:(P.info? t).isSome=true):ldT P t=some none:=by
 obtain⟨i,hi⟩:=Option.isSome_iff_exists.1 hi;unfold ldT;rw[hi];rcases mM h with⟨_,k,hk⟩|⟨_,hk⟩|⟨_,hk⟩ <;> rw[hk]
theorem wY{t:TypeId}{c:Nat}{x y:AV}{u v:Value}{b:Bool}{d:Nat}(O:uK P t=some c)(h:vX c x y=some b)(I:rep S w x u)(F:rep S w y v)(w':World):
   (Op.equalIn (d+1) t u v).run P w'=.ok b w':=by
 unfold vX at h;split at h
 . split at h
   . simp only[rep]at I F
     subst I F
     rename_i J
     subst J;simp at h;rcases mM O with⟨_,k',E⟩|⟨h0,_⟩|⟨h0,_⟩
     . rw[run_equalIn_int w' d t _ k' _ _ E,h]
     . simp at h0
     . simp at h0
   . simp at h
 . simp only[rep]at I F
   subst I F;rcases mM O with⟨h0,_⟩|⟨_,E⟩|⟨h0,_⟩
   . simp at h0
   . rw[run_equalIn_string w' d t _ _ E]
     injection h with h;rw[h]
   . simp at h0
 . simp only[rep]at I F
   subst I F;rcases mM O with⟨h0,_⟩|⟨h0,_⟩|⟨_,E⟩
   . simp at h0
   . simp at h0
   . rw[run_equalIn_bool' w' d t _ _ E]
     injection h with h;rw[h]
 . simp at h
theorem uO:∀(fs:List Field) (l:List Nat) (xs ys:List AV) (o:Nat) (us vs pu pv:List Value) (b:Bool) (d:Nat),
   pZ P o fs=some l->iH l xs ys=some b->bG S w xs us->bG S w ys vs->pu.length=o->pv.length=o->∀w':World,
   (Op.eqFields (d+1) (pu++us).toArray (pv++vs).toArray fs).run P w'=.ok b w'
 | [],l,xs,ys,o,us,vs,pu,pv,b,d,E,he,_,_,_,_,w'=>by
   simp only[pZ]at E;injection E with E;subst E;cases xs <;> cases ys <;> simp[iH]at he;subst he;simp[Op.eqFields]
 | f::fs,l,xs,ys,o,us,vs,pu,pv,b,d,E,he,hx,hy,e1,e2,w'=>by
   simp only[pZ]at E;split at E
   . rename_i hc
     simp only[Bool.and_eq_true,bne_iff_ne,ne_eq,beq_iff_eq]at hc;obtain⟨⟨hn,ho⟩,hi⟩:=hc;cases O:uK P f.type with
     | none=>simp[O]at E
     | some c=>
       cases Y:pZ P (o+1) fs with
       | none=>simp[O,Y]at E
       | some l'=>
         simp[O,Y]at E;subst E;cases xs with
         | nil=>simp[iH]at he
         | cons x xs=>
           cases ys with
           | nil=>simp[iH]at he
           | cons y ys=>
             simp only[iH]at he;cases F:vX c x y with
             | none=>simp[F,N4]at he
             | some b1=>
               cases I:iH l' xs ys with
               | none=>simp[F,I,N4]at he
               | some b2=>
                 simp[F,I,N4]at he;simp only[bG]at hx hy;obtain⟨u,V,rfl,hu,Z⟩:=hx;obtain⟨v,U,rfl,hv,X⟩:=hy;have J:=Ug O hi;have p1:∀w':World,(part f.type (pu++u::V).toArray f.offset).run P w'=.ok u w':=fun w'=>pQ (w:=w') J (by rw[ho,<-e1];simp)
                 have p2:∀w':World,(part f.type (pv++v::U).toArray f.offset).run P w'=.ok v w':=fun w'=>pQ (w:=w') J (by rw[ho,<-e2];simp)
                 have q:=wY (d:=d) O F hu hv;have ih:=uO fs l' xs ys (o+1) V U (pu++[u]) (pv++[v]) b2 d Y I Z X (by simp[e1]) (by simp[e2]) w';simp only[List.append_assoc,List.singleton_append]at ih;simp only[Op.eqFields,hn,ne_eq,not_false_eq_true,if_true,Sem.run_bind,p1,p2,q,Result.andThen_ok,Sem.run_ite];subst he;cases b1
                 . simp
                 . simp only[Bool.not_true,Bool.false_eq_true,if_false,Bool.true_and]
                   exact ih
   . simp at E
theorem CV{e:TypeId}{c:Nat}(V:uK P e=some c)(hi:(P.info? e).isSome=true){d:Nat}:∀(m i:Nat) (xs ys:List AV) (us vs pu pv:List Value) (b:Bool),
   iH (List.replicate m c) xs ys=some b->bG S w xs us->bG S w ys vs->pu.length=i->pv.length=i->∀w':World,
   ((forIn (m := Sem) (List.range' i m) ((none, ()) : Option Bool × Unit) (fun i _ => do
         if !(<-Op.equalIn (d+1) e (<-part e (pu++us).toArray (i*1)) (<-part e (pv++vs).toArray (i*1)))then pure (ForInStep.done (some false,()))
         else pure (ForInStep.yield (none,())))).run P w').andThen (fun r w'=>Sem.run P (match r.1 with
       | some x=>pure x
       | none=>pure true:Sem Bool) w')=.ok b w'
 | 0,i,xs,ys,us,vs,pu,pv,b,he,_,_,_,_,w'=>by
   cases xs <;> cases ys <;> simp[iH]at he;subst he;simp
 | m+1,i,xs,ys,us,vs,pu,pv,b,he,hx,hy,e1,e2,w'=>by
   rw[List.replicate_succ]at he;cases xs with
   | nil=>simp[iH]at he
   | cons x xs=>
     cases ys with
     | nil=>simp[iH]at he
     | cons y ys=>
       simp only[iH]at he;cases E:vX c x y with
       | none=>simp[E,N4]at he
       | some b1=>
         cases F:iH (List.replicate m c) xs ys with
         | none=>simp[E,F,N4]at he
         | some b2=>
           simp[E,F,N4]at he;simp only[bG]at hx hy;obtain⟨u,O,rfl,Z,X⟩:=hx;obtain⟨v,J,rfl,hv,U⟩:=hy;have I:=Ug V hi;have p1:∀w':World,(part e (pu++u::O).toArray (i*1)).run P w'=.ok u w':=fun w'=>pQ (w:=w') I (by rw[Nat.mul_one,<-e1];simp)
           have Y:∀w':World,(part e (pv++v::J).toArray (i*1)).run P w'=.ok v w':=fun w'=>pQ (w:=w') I (by rw[Nat.mul_one,<-e2];simp)
           have q:=wY (d:=d) V E Z hv;have ih:=CV V hi (d:=d) m (i+1) xs ys O J (pu++[u]) (pv++[v]) b2 F X U (by simp[e1]) (by simp[e2]) w';simp only[List.append_assoc,List.singleton_append]at ih;simp only[List.range'_succ,List.forIn_cons,Sem.run_bind,p1,Y,q,Result.andThen_ok,Sem.run_ite,bind_assoc];subst he;cases b1
           . simp
           . simp only[Bool.not_true,Bool.false_eq_true,if_false,Bool.true_and,Sem.run_pure,Result.andThen_ok]
             exact ih
theorem Dv{t:TypeId}{l:List Nat}(h:zT P t=some l){xs J:List AV}{b:Bool}(Z:iH l xs J=some b){F vs:List Value}
   (hx:bG S w xs F) (X:bG S w J vs) (d:Nat) (w':World):(Op.equalIn (d+2) t (.agg F.toArray) (.agg vs.toArray)).run P w'=.ok b w':=by
 unfold zT at h;split at h
 . rename_i fs I
   split at h
   . rename_i O
     have Y:P.fieldsOf t=fs:=by unfold Program.fieldsOf;rw[I]
     rw[run_equalIn_struct w' (d+1) t _ _ (by rw[Y];exact I) O.1,Y];simpa using uO fs.toList l xs J 0 F vs [] [] b d h Z hx X rfl rfl w'
   . simp at h
 . rename_i n e I
   split at h
   . rename_i O
     cases V:uK P e with
     | none=>simp[V]at h
     | some c=>
       simp[V]at h;subst h;cases hi:P.info? e with
       | none=>simp[hi]at O
       | some i=>
         have U:i.size=1:=by simpa[hi]using O.1
         have E:=CV (P:=P) (S:=S) (w:=w) V (by simp[hi]) (d:=d) n 0 xs J F vs [] [] b Z hx X rfl rfl w';simp only[List.nil_append]at E;rw[Op.equalIn];simp only[Sem.run_bind,run_underlying I,Result.andThen_ok,sizeOf,typeInfo,run_program,hi,Sem.run_pure,U];rw[Std.Legacy.Range.forIn_eq_forIn_range'];simp only[Std.Legacy.Range.size,Nat.sub_zero,Nat.add_one_sub_one,Nat.div_one];have e:∀(r:Result (Option Bool×Unit)) (f g:Option Bool×Unit->World->Result Bool),(∀a w,f a w=g a w)->r.andThen f=r.andThen g:=fun r f g h=>by cases r <;> simp[Result.andThen,h]
         exact(e _ _ _ (fun a w=>by rcases a with⟨a,_⟩;cases a <;> rfl)).trans E
   . simp at h
 . simp at h
theorem jS(op:BinOp)(t:TypeId)(x y:Operand)(a b:Value)(h1:a≠.nilIface)(E:∀cs,a≠.agg cs)(w':World):(eqGuard op t x y a b).run P w'=.ok () w':=by
 cases op <;> simp only[eqGuard] <;> (try rfl) <;> cases a <;> first|rfl|(exact absurd rfl h1)|(exact absurd rfl (E _))
theorem S6{t:TypeId}{l:List Nat}(h:zT P t=some l):P.eqGuardType P.depth t=false:=by
 unfold zT at h;split at h
 . split at h
   . rename_i E;exact E.2
   . simp at h
 . split at h
   . rename_i E;exact E.2
   . simp at h
 . simp at h
theorem Tz{op:BinOp}{t:TypeId}{x y:AV}(h:iN P G op t x y K):
   ∃z,K z/\(gt G->∀u v,rep S w x u->rep S w y v->∀J F,yK P S H w z (do eqGuard op t J F u v;binOp op t u v)):=by
 unfold iN at h;split at h
 . rename_i k a k' b
   split at h
   . rename_i ac
     refine⟨_,h.2,fun U u v I O J F=>?_⟩;have V:=h.1 U;simp only[rep]at I O;subst I O;refine iY mK fun w'=>?_
     simp only[Sem.run_bind,jS op t J F (.int k a) (.int k' b) (by simp) (by simp) w',Result.andThen_ok];have Z:¬b<0:=by omega
     cases op <;> simp only[zX,Bool.false_eq_true]at ac <;> simp[binOp,Op.shift,Z,shV]
   split at h
   . rename_i hk
     subst hk;have E:∀(z:Value),(∀w',(binOp op t (.int k a) (.int k b)).run P w'=.ok z w')->∀u v,rep S w (.v (.int k a)) u->rep S w (.v (.int k b)) v->∀J F,yK P S H w (.v z) (do eqGuard op t J F u v;binOp op t u v):=by
       intro z Y u v I O J F;simp only[rep]at I O;subst I O;refine iY mK fun w'=>?_
       simp only[Sem.run_bind,jS op t J F (.int k a) (.int k b) (by simp) (by simp) w',Result.andThen_ok,Y]
     cases op <;> simp only at h <;> first
       | exact h.elim
       | (refine ⟨_, h, fun _ => E _ (fun w' => ?_)⟩
          first
            | (simp[binOp,Op.intArith,Op.intCmp];done)
            | (simp[binOp];rfl))
       | exact⟨_,h.2,fun U=>E _ (fun w'=>by simp[binOp,Op.intDiv,h.1 U])⟩
   . exact h.elim
 . rename_i a b
   have E:∀(z:Value),(∀w',(binOp op t (.string a) (.string b)).run P w'=.ok z w')->∀u v,rep S w (.v (.string a)) u->rep S w (.v (.string b)) v->∀J F,yK P S H w (.v z) (do eqGuard op t J F u v;binOp op t u v):=by
     intro z Y u v I O J F;simp only[rep]at I O;subst I O;refine iY mK fun w'=>?_
     simp only[Sem.run_bind,jS op t J F (.string a) (.string b) (by simp) (by simp) w',Result.andThen_ok,Y]
   cases op <;> simp only at h <;> first
     | exact h.elim
     | exact⟨_,h,fun _=>E _ (fun w'=>by simp[binOp,Op.stringOp])⟩
     | exact ⟨_, h.2, fun U => E _ (fun w' => by
         have:=h.1 U;have h2:¬((a.size+b.size:Nat):Int)>IntKind.i64.max:=by omega
         simp only[binOp,Op.stringOp];rw[if_neg h2];rfl)⟩
 . rename_i a b
   split at h
   . rename_i V
     have aa:=RL V;cases op <;> simp only at h <;> first
       | exact h.elim
       | (refine ⟨_, h, fun _ u v I O J F => ?_⟩
          simp only[rep]at I O;subst I O;refine iY mK fun w'=>?_
          simp only[Sem.run_bind,jS _ t J F (.bool a) (.bool b) (by simp) (by simp) w',Result.andThen_ok];simp[binOp,run_equal_bool w' t a b aa])
   . exact h.elim
 . rename_i xs ys
   split at h
   . rename_i l hl
     split at h
     . rename_i b V
       cases op <;> simp only at h <;> first
         | exact h.elim
         | (refine ⟨_, h, fun _ u v I O J F => ?_⟩
            simp only[rep]at I O;obtain⟨us,rfl,X,_⟩:=I;obtain⟨vs,rfl,ab,_⟩:=O;refine iY mK fun w'=>?_
            have q:=Dv hl V X ab 9998 w';simp only[Sem.run_bind,run_eqGuard_agg _ _ _ _ _ _ _ (S6 hl),Result.andThen_ok]
            first
              | (rw[run_eql_struct,q];rfl)
              | (rw[run_neq_struct,q];rfl))
     . exact h.elim
   . exact h.elim
 . exact⟨_,h.2,fun U=>(h.1 U).elim⟩
end
end Go.Aw
end
section
namespace Go.Aw
open Go.RowKit
section
variable{P:Program}{S:Sg}{H:aK}{w:World}{G:Option Bool}{K:AV->Prop}
theorem jC{n:Nat}:∀{l:List (List AV)},cZ n l↔∀cs∈l,cs.length=n
 | []=>by simp[cZ]
 | x::r=>by simp[cZ,jC (l:=r)]
theorem yQ{α:Type}{n:Nat}{f:α->List AV}(h:∀x,(f x).length=n)(l:List α):cZ n (l.map f):=jC.2 fun cs E=>by
 obtain⟨x,_,rfl⟩:=List.mem_map.1 E;exact h x
theorem abJ{b:Bool}{u:Value}(h:rep S w (.v (.bool b)) u):u=.bool b:=by simpa only[rep]using h
theorem uZ{c:Bool}{x y:AV}{u v:Value}(E:c=true->rep S w x u)(F:c=false->rep S w y v):rep S w (wR c x y) (if c then u else v):=by
 unfold wR;split
 . cases c
   . have:=F rfl;simp only[rep]at this |-;subst this;simp
   . have:=E rfl;simp only[rep]at this |-;subst this;simp
 . cases c
   . have:=F rfl;simp only[rep]at this |-;subst this;simp
   . have:=E rfl;simp only[rep]at this |-;subst this;simp
 . cases c
   . have:=F rfl;simp only[rep]at this |-;subst this;simp
   . have:=E rfl;simp only[rep]at this |-;subst this;simp
 . cases c
   . simpa using F rfl
   . simpa using E rfl
theorem MV{c:Bool}{x y:AV}(h:Bp G c x y K):
   ∃z,K z/\(gt G->∀u v,rep S w x u->rep S w y v->rep S w z (if c then u else v)):=by
 unfold Bp at h;split at h
 . refine⟨_,h.2.2,fun J u v F E=>uZ (fun I=>?_) (fun I=>?_)⟩
   . simp only[rep]at F;exact F.1 (h.1 J I)
   . simp only[rep]at E;exact E.1 (h.2.1 J I)
 . refine⟨_,h.2,fun J u v F E=>uZ (fun I=>?_) (fun _=>E)⟩
   simp only[rep]at F;exact F.1 (h.1 J I)
 . refine⟨_,h.2,fun J u v F E=>uZ (fun _=>F) (fun I=>?_)⟩
   simp only[rep]at E;exact E.1 (h.1 J I)
 . exact⟨_,h,fun _ u v F E=>uZ (fun _=>F) (fun _=>E)⟩
theorem IT{v:Value}(h:v.oneCell'=true):v.cells=#[v]:=by
 cases v <;> first|rfl|simp[Value.oneCell']at h
theorem yB{x:AV}{K:List AV->Prop}(h:nC x K):∃cs,K cs/\∀u,rep S w x u->∃l:List Value,u.cells=l.toArray/\bG S w cs l/\(∀v∈l,v.oneCell'=true):=by
 have F:∀(x:AV) (u:Value),rep S w x u->u.oneCell'=true->∃l:List Value,u.cells=l.toArray/\bG S w [x] l/\(∀v∈l,v.oneCell'=true):=fun x u E h1=>
   ⟨[u],IT h1,by simp only[bG];exact⟨u,[],rfl,E,rfl⟩,by simpa using h1⟩
 unfold nC at h;split at h
 . refine⟨_,h,fun u E=>?_⟩
   simp only[rep]at E;obtain⟨l,rfl,h1,I⟩:=E;exact⟨l,rfl,h1,I⟩
 . refine⟨_,h.2,fun u E=>F _ u E ?_⟩
   simp only[rep]at E;subst E;exact h.1
 . refine⟨_,h,fun u E=>F _ u E ?_⟩
   simp only[rep]at E;obtain⟨_,_,_,rfl,_⟩:=E;rfl
 . refine⟨_,h,fun u E=>F _ u E ?_⟩
   simp only[rep]at E;obtain⟨_,_,rfl,_⟩:=E;rfl
 . refine⟨_,h,fun u E=>F _ u E ?_⟩
   simp only[rep]at E;obtain⟨_,_,_,_,_,rfl⟩:=E;rfl
 . refine⟨_,h,fun u E=>F _ u E ?_⟩
   simp only[rep]at E;obtain⟨_,_,_,_,_,rfl⟩:=E;rfl
 . exact h.elim
theorem DK(v:Value):rep S w (rI v) v:=by
 unfold rI;split
 . unfold rep
   exact⟨none,0,0,rfl,rfl,Nat.le_refl _,Nat.zero_le _,.inl rfl⟩
 . exact mK
theorem mS:∀(l:List Value),bG S w (l.map rI) l
 | []=>by simp[bG]
 | v::r=>by simp only[List.map_cons,bG];exact⟨v,r,rfl,DK v,mS r⟩
theorem DE:∀(l:List Value) (i:Nat) (A:Array Value) (o:Nat),o+i+l.length<=A.size ->
   ((l.zipIdx i).foldl (fun cs (p:Value×Nat)=>cs.setIfInBounds (o+p.2) p.1) A).toList=A.toList.take (o+i)++l++A.toList.drop (o+i+l.length)
 | [],i,A,o,h=>by simp
 | v::r,i,A,o,h=>by
   simp only[List.zipIdx_cons,List.foldl_cons,List.length_cons]at h |-;rw[DE r (i+1) _ o (by simp;omega)];have F:(A.setIfInBounds (o+i) v).toList=A.toList.set (o+i) v:=by simp
   rw[F,show o+(i+1)=o+i+1 by omega,List.take_set,List.drop_set_of_lt (by omega)];have E:o+i<A.toList.length:=by simp;omega
   have I:(List.take (o+i+1) A.toList).set (o+i) v=List.take (o+i) A.toList++[v]:=by
     rw[List.take_succ_eq_append_getElem E,List.set_append_right _ _ (by simp;omega)];have:(List.take (o+i) A.toList).length=o+i:=by rw[List.length_take];omega
     rw[this,Nat.sub_self];rfl
   rw[I];simp only[List.append_assoc,List.singleton_append,List.cons_append,List.nil_append];rw[show o+i+1+r.length=o+i+(r.length+1)by omega]
theorem Ae{places:List (Nat×Nat)}{place:Nat->Option (Nat×Nat)}(V:∀i Z,places[i]?=some Z->place i=some Z):∀(E:List (Nat×List AV)) (vs:List (Nat×Value)) (cs:List AV) (A:Array Value) (cs':List AV),
   rY places cs E=some cs'->bG S w cs A.toList->(∀v∈A.toList,v.oneCell'=true) ->
   E.length=vs.length->(∀(j i:Nat) (c:List AV),E[j]?=some (i,c)->∃(v:Value) (l:List Value),vs[j]?=some (i,v)/\v.cells=List.toArray l/\bG S w c l/\∀u∈l,u.oneCell'=true) ->
   ∃U,Instr.fill place A vs=some U/\bG S w cs' U.toList/\(∀v∈U.toList,v.oneCell'=true)
 | [],vs,cs,A,cs',F,hr,h1,hl,_=>by
   simp only[rY]at F;injection F with F;subst F;have:vs=[]:=List.eq_nil_of_length_eq_zero (by simpa using hl.symm);subst this;exact⟨A,rfl,hr,h1⟩
 | (i,c)::rest,vs,cs,A,cs',F,hr,h1,hl,hv=>by
   obtain⟨v,l,e1,e2,e3,e4⟩:=hv 0 i c (by simp);cases vs with
   | nil=>simp at e1
   | cons q vs=>
     simp at e1;subst e1;simp only[rY]at F;cases hp:places[i]? with
     | none=>simp[hp]at F
     | some Z=>
       obtain⟨off,n⟩:=Z;simp only[hp]at F;split at F
       . rename_i hc
         have O:l.length=n:=by rw[<-hc.1];exact iC _ _ e3
         have hA:A.toList.length=cs.length:=iC _ _ hr;have X:A.size=cs.length:=by simpa using hA
         have hz:=DE l 0 A off (by rw[O,X];have:=hc.2;omega);simp only[Nat.add_zero]at hz;have J:bG S w (cs.take off++c++cs.drop (off+n)) (A.toList.take off++l++A.toList.drop (off+l.length)):=by
           rw[O];exact dO _ _ _ _ (dO _ _ _ _ (sY _ _ _ hr) e3) (xA _ _ _ hr)
         have Y:∀u∈A.toList.take off++l++A.toList.drop (off+l.length),u.oneCell'=true:=by
           intro u I;simp only[List.mem_append]at I;rcases I with(I|I)|I
           . exact h1 u (List.mem_of_mem_take I)
           . exact e4 u I
           . exact h1 u (List.mem_of_mem_drop I)
         rw[<-hz]at J Y;obtain⟨U,f1,f2,f3⟩:=Ae V rest vs _ _ cs' F J Y (by simpa using hl) (fun j i c hj=>by simpa using hv (j+1) i c (by simpa using hj));refine⟨U,?_,f2,f3⟩;simp only[Instr.fill,V i _ hp,e2,List.size_toArray,O];rw[if_neg (by have:=hc.2;simp[X];omega)];rw[<-f1]
         congr 1
         rw[<-Array.foldl_toList];simp
       . simp at F
theorem oB{t:TypeId}{z:List AV}(h:dU P t=some z):∃i v,P.info? t=some i/\i.zero=some v/\z=v.cells.toList.map rI/\v.cells.size=i.size/\i.size≠0/\(∀u∈v.cells.toList,u.oneCell'=true):=by
 unfold dU at h;cases hi:P.info? t with
 | none=>simp[hi]at h
 | some i=>
   cases E:i.zero with
   | none=>simp[hi,E]at h
   | some v=>
     simp only[hi,E]at h;split at h
     . rename_i F
       injection h with h;exact⟨i,v,rfl,E,h.symm,F.1,F.2.1,fun u I=>List.all_eq_true.1 F.2.2 u I⟩
     . simp at h
theorem aW{x:AV}{k:AV->Prop}(h:bZ G x k):∃y,k y/\(gt G->∀u,rep S w x u->rep S w y u):=by
 unfold bZ at h;split at h
 . refine⟨_,h.2,fun F u E=>?_⟩
   simp only[rep]at E;refine E.1 ?_;have:=h.1;cases G with
   | none=>exact this
   | some b=>exact this F
 . exact⟨_,h,fun _ u E=>E⟩
theorem VI{op:UnOp}{x:AV}(h:aun op x K):∃z,K z/\∀u,rep S w x u->yK P S H w z (Op.unary op u):=by
 unfold aun at h;split at h
 . refine⟨_,h,fun u E=>?_⟩
   simp only[rep]at E;subst E;exact iY mK fun w'=>by simp[Op.unary]
 . refine⟨_,h,fun u E=>?_⟩
   simp only[rep]at E;subst E;exact iY mK fun w'=>by simp[Op.unary,Op.intArith]
 . exact h.elim
theorem Ji{t:TypeId}{k:IntKind}(h:G3 P t=some k):P.underlying t=some (.int k):=by
 unfold G3 at h;split at h
 . rename_i E;injection h with h;subst h;exact E
 . simp at h
theorem N5{t:TypeId}(h:Ds P t=true):∃e,P.underlying t=some (.slice e)/\P.underlying e=some (.int .u8):=by
 unfold Ds at h;split at h
 . rename_i e E
   split at h
   . rename_i F;exact⟨e,E,F⟩
   . simp at h
 . simp at h
theorem HF:∀(es:List (List AV)) (ns:List Int) (o:Nat) {b sz:Nat},rQ es=some ns->iG S w b sz o es->0<sz->ns.length=es.length/\∀j n,ns[j]?=some n->w.cell? ⟨b,o+j,none⟩=some (.int .u8 n)
 | [],ns,o,b,sz,h,_,_=>by
   simp only[rQ]at h;injection h with h;subst h;simp
 | es::r,ns,o,b,sz,h,he,hs=>by
   unfold rQ at h;split at h
   . rename_i e;simp at e
   . rename_i n r' e
     injection e with Y X;subst Y X;cases F:rQ r with
     | none=>simp[F]at h
     | some ns'=>
       simp[F]at h;subst h;simp only[iG,dC]at he;obtain⟨h1,⟨⟨u,O,_,J⟩,_⟩,U⟩:=he;simp only[rep]at J;subst J;have E:sz=1:=by simpa using h1.symm
       subst E;obtain⟨V,Z⟩:=HF r ns' (o+1) F U hs;refine⟨by simp[V],fun j m I=>?_⟩;cases j with
       | zero=>simp at I;subst I;simpa using O
       | succ j=>
         rw[show o+(j+1)=o+1+j by omega];exact Z j m (by simpa using I)
   . simp at h
theorem OF{src dst:TypeId}{x:AV}(h:zS P src dst x K):∃z,K z/\∀u,rep S w x u->yK P S H w z (convert src dst u):=by
 unfold zS at h;split at h
 . split at h
   . rename_i k k' hk Z
     refine⟨_,h,fun u I=>?_⟩;simp only[rep]at I;subst I;refine iY mK fun w'=>?_
     simp[convert,run_underlying (Ji hk),run_underlying (Ji Z),Conv.intToInt]
   . exact h.elim
 . split at h
   . rename_i U
     refine⟨_,h,fun u I=>?_⟩;simp only[rep]at I;subst I;refine iY mK fun w'=>?_
     simp[convert,run_underlying (gH U.1),run_underlying (gH U.2)]
   . exact h.elim
 . rename_i es
   split at h
   . rename_i U
     split at h
     . rename_i ns J
       refine⟨_,h,fun u I=>?_⟩;obtain⟨e,he,O⟩:=N5 U.1;have hd:=gH U.2;simp only[rep]at I;obtain⟨ad,n,c,rfl,h1,_,_,E⟩:=I;refine⟨_,mK,fun w' ha=>?_⟩;have empty:es=[]->ns=[]:=fun e=>by subst e;simp[rQ]at J;exact J
       cases ad with
       | none=>
         have:es=[]:=by rcases E with E|⟨b,o,sz,E,_⟩;exact E;simp at E
         rw[run_convert_bytes_nil w' src e he O n c dst hd,empty this];rfl
       | some a=>
         have F:(loadCells a n).run P w'=.ok (ns.map (Value.int .u8)).toArray w':=by
           rcases E with E|⟨b,o,sz,E,hb,Y,V⟩
           . have X:n=0:=by rw[<-h1,E];rfl
             rw[X,empty E];simp[loadCells,loadCellsFrom]
           . injection E with E
             subst E;obtain⟨i1,i2⟩:=HF es ns o J V Y;have X:n=(ns.map (Value.int .u8)).length:=by rw[List.length_map,i1,h1]
             rw[X];refine run_loadCells_list w' _ _ fun j v hj=>?_
             rw[Addr.add_lit];simp at hj;obtain⟨m,hm,rfl⟩:=hj;exact ha.cell hb (i2 j m hm)
         rw[run_convert_bytes_string w' src dst e _ n c he O hd,run_bytesToString w' a n c ns F,foldl_push_bytes]
         congr 3
         simp[ByteArray.empty,ByteArray.emptyWithCapacity];rfl
     . exact h.elim
   . exact h.elim
 . exact h.elim
theorem G4{t:TypeId}{e sz E:Nat}(J:cF P t=some (e,sz,E)):P.underlying t=some (.slice (P.elem t))/\∀w:World,(sizeOf (P.elem t)).run P w=.ok sz w:=by
 obtain⟨i,z,I,hi,F,_⟩:=jD J;have:P.elem t=e:=by unfold Program.elem;rw[I]
 rw[this];exact⟨I,fun w=>by simp[sizeOf,typeInfo,hi,F]⟩
theorem EO{t:TypeId}{x a b:AV}(h:E1 P G t x a b K):
   ∃z,K z/\(gt G->∀(u J F:Value),rep S w x u->rep S w a J->rep S w b F->yK P S H w z (Instr.sliceAt t u none (some J) (some F))):=by
 unfold E1 at h;split at h
 . rename_i es ka a kb b
   split at h
   . rename_i e he
     refine⟨_,h.2,fun hg u J F Y h1 U=>?_⟩;obtain⟨e1,e2⟩:=h.1 hg;simp only[rep]at Y h1 U;subst h1 U e1 e2;obtain⟨X,n,c,rfl,rfl,hc,hm,V⟩:=Y;obtain⟨E,O⟩:=G4 (P:=P) (t:=t) (by rw[he]);refine⟨.slice X es.length es.length,?_,fun w' _=>?_⟩
     . simp only[rep]
       exact⟨X,_,rfl,rfl,by omega,V⟩
     . rw[run_sliceAt_slice w' t _ _ _ _ E]
       have I:(es.length:Int)<=(c:Int):=by exact_mod_cast hc
       rcases V with rfl|⟨bb,o,sz,rfl,_⟩
       . simp[Instr.slice,run_underlying E,Instr.sliceBounds,Instr.sliceBound,asIntOf,O]
       . simp[Instr.slice,run_underlying E,Instr.sliceBounds,Instr.sliceBound,asIntOf,O,I,Addr.add]
         intro Z;omega
   . exact h.elim
 . exact h.elim
theorem HJ{es:List (List AV)}{ad:Option Addr}{n c sz a b:Nat}(hu:rep S w (.sl es) (.slice ad n c))(J:cZ sz es)(ab:a<=b)(hb:b<=es.length):
   rep S w (.sl ((es.take b).drop a)) (sliced ad a b c sz):=by
 simp only[rep]at hu |-;obtain⟨aa,n',c',e,h1,h2,h3,O⟩:=hu;injection e with Z Y e3;subst Z Y e3;refine⟨_,_,_,rfl,by simp;omega,by omega,by omega,?_⟩;by_cases E:(es.take b).drop a=[]
 . exact .inl E
 . refine .inr ?_
   rcases O with O|⟨bl,o,I,rfl,U,hs,F⟩
   . subst O;simp at E
   . have V : 0 < es.length := by
       rcases Nat.eq_zero_or_pos es.length with h0|h0
       . have:=List.eq_nil_of_length_eq_zero h0;subst this;simp at E
       . exact h0
     have X:I=sz:=by
       have Z:=(sV es o 0 F V).1;have Y:=jC.1 J (es.getD 0 []) (by simp only[List.getD,List.getElem?_eq_getElem V,Option.getD_some];exact List.getElem_mem V);rw[<-Z,Y]
     subst X;have ac:a<b:=by
       rcases Nat.lt_or_ge a b with h|h
       . exact h
       . exact absurd (List.drop_eq_nil_of_le (by simp;omega)) E
     refine⟨bl,o+a*I,I,?_,U,hs,?_⟩
     . split
       . omega
       . simp[Addr.add_lit]
     . exact B8 _ o a (yT es o b F)
theorem Mq{t:TypeId}{x:AV}{lo hi:Option AV}(h:nF P G t x lo hi K):
   ∃z,K z/\(gt G->∀(u:Value) (Z Y:Option Value),rep S w x u->(∀y,lo=some y->∃v,Z=some v/\rep S w y v)->(lo=none->Z=none)->(∀y,hi=some y->∃v,Y=some v/\rep S w y v)->(hi=none->Y=none) ->
     yK P S H w z (Instr.sliceAt t u Z Y none)):=by
 unfold nF at h;split at h
 . rename_i es ka a kb b
   split at h
   . rename_i e sz aa he
     refine⟨_,h.2,fun X u Z Y F V _ O _=>?_⟩;obtain⟨⟨h0,h1,h2⟩,h3⟩:=h.1 X;obtain⟨v,rfl,I⟩:=V _ rfl;obtain⟨v',rfl,J⟩:=O _ rfl;simp only[rep]at I J;subst I J;have U:=F;simp only[rep]at U;obtain⟨ad,n,c,rfl,e1,e2,_⟩:=U;obtain⟨E,hz⟩:=G4 he;have:=HJ (a:=a.toNat) (b:=b.toNat) F h3 (by omega) (by omega);refine⟨_,this,fun w' _=>?_⟩;rw[run_sliceAt_slice w' t _ _ _ _ E,run_slice_lh w' t ad n c E ka kb a b h0 h1 (by omega),hz];rfl
   . exact h.elim
 . rename_i es ka a
   split at h
   . rename_i e sz aa he
     refine⟨_,h.2,fun X u Z Y F V _ _ O=>?_⟩;obtain⟨⟨h0,h1⟩,h3⟩:=h.1 X;obtain⟨v,rfl,I⟩:=V _ rfl;have:=O rfl;subst this;simp only[rep]at I;subst I;have U:=F;simp only[rep]at U;obtain⟨ad,n,c,rfl,e1,e2,_⟩:=U;obtain⟨E,hz⟩:=G4 he;have:=HJ (a:=a.toNat) (b:=es.length) F h3 (by omega) (by omega);rw[List.take_length,e1]at this;refine⟨_,this,fun w' _=>?_⟩;rw[run_sliceAt_slice w' t _ _ _ _ E,run_slice_l w' t ad n c E ka a h0 (by omega),hz];rfl
   . exact h.elim
 . rename_i es kb b
   split at h
   . rename_i e he
     refine⟨_,h.2,fun X u Z Y F _ V O _=>?_⟩;obtain⟨h0,h1⟩:=h.1 X;obtain⟨v,rfl,I⟩:=O _ rfl;have:=V rfl;subst this;simp only[rep]at I;subst I;obtain⟨E,hz⟩:=G4 he;simp only[rep]at F;obtain⟨ad,n,c,rfl,e1,e2,e3,e4⟩:=F;refine⟨sliced ad 0 b.toNat c e.2.1,?_,fun w' _=>?_⟩
     . simp only[rep]
       refine⟨ad,b.toNat,c,?_,by simp;omega,by omega,e3,?_⟩
       . simp only[sliced,Nat.sub_zero]
         congr 1
         split
         . rfl
         . cases ad <;> simp[Addr.add_zero']
       . rcases e4 with e4|⟨bl,o,af,rfl,ae,ac,ab⟩
         . left;rw[e4];simp
         . exact .inr ⟨bl,o,af,rfl,ae,ac,yT es o _ ab⟩
     . rw[run_sliceAt_slice w' t _ _ _ _ E,run_slice_h w' t ad n c E kb b h0 (by omega),hz]
       rfl
   . exact h.elim
 . rename_i s ka a kb b
   split at h
   . rename_i E
     refine⟨_,h.2,fun X u Z Y F V _ O _=>?_⟩;obtain⟨h0,h1,h2⟩:=h.1 X;obtain⟨v,rfl,I⟩:=V _ rfl;obtain⟨v',rfl,J⟩:=O _ rfl;simp only[rep]at F I J;subst F I J;refine iY mK fun w'=>?_
     rw[run_sliceAt_string w' t _ _ _ _ (gH E),run_slice_string w' t s ka kb a b (gH E) h0 h1 h2]
   . exact h.elim
 . rename_i s ka a
   split at h
   . rename_i E
     refine⟨_,h.2,fun X u Z Y F V _ _ O=>?_⟩;obtain⟨h0,h1⟩:=h.1 X;obtain⟨v,rfl,I⟩:=V _ rfl;have:=O rfl;subst this;simp only[rep]at F I;subst F I;refine iY mK fun w'=>?_
     rw[run_sliceAt_string w' t _ _ _ _ (gH E),run_slice_string_l w' t s (gH E) ka a h0 h1]
   . exact h.elim
 . rename_i s kb b
   split at h
   . rename_i E
     refine⟨_,h.2,fun X u Z Y F _ V O _=>?_⟩;obtain⟨h0,h1⟩:=h.1 X;obtain⟨v,rfl,I⟩:=O _ rfl;have:=V rfl;subst this;simp only[rep]at F I;subst F I;refine iY mK fun w'=>?_
     rw[run_sliceAt_string w' t _ _ _ _ (gH E),run_slice_string_h w' t s (gH E) kb b h0 h1]
   . exact h.elim
 . exact h.elim
theorem TN{k:Nat}{r:Row}(hH:AK S w H)(hk:H k=some r){a b c:Nat}{I:Option Addr}{n:Nat}(V:S.loc k=.slice I n c)(Y:a<=b)(hb:b<=r.es.length):n=r.es.length/\n<=c/\rep S w (.oz k a b) (sliced I a b c r.sz):=by
 have X:=hH k r hk;obtain⟨xs,ho,_,_⟩:=X.sl V;have E:(I=none/\n=0/\c=0/\r.es.length=0)\/∃g,I=some ⟨g,0,none⟩/\n=r.es.length/\n<=c:=by
   rcases ho.2 with⟨O,U⟩|⟨g,cap,cur,O,_,_,Z,_⟩
   . rw[V]at O
     injection O with h1 F J;exact .inl ⟨h1,F,J,U⟩
   . rw[V]at O
     injection O with h1 F J;subst J;exact .inr ⟨g,h1,F,by omega⟩
 have U:n=r.es.length/\n<=c:=by
   rcases E with⟨_,h1,F,J⟩|⟨g,_,h1,F⟩ <;> omega
 refine⟨U.1,U.2,?_⟩;simp only[rep,sliced];refine⟨X.lt,I,n,c,_,_,V,rfl,Y,by omega,fun aa=>?_,fun ha=>?_⟩
 . rcases E with⟨_,h1,F,J⟩|⟨g,h0,h1,F⟩
   . omega
   . subst h0
     refine⟨g,rfl,?_⟩;rw[if_neg (by omega)];simp[Addr.add_lit,X.sz]
 . subst ha
   rcases E with⟨h0,_,_,_⟩|⟨g,h0,_,_⟩
   . subst h0;simp
   . subst h0;simp[Addr.add_lit]
theorem sZ{H':aK}{t:TypeId}{x:AV}{lo hi:Option AV}(hH:AK S w H)(h:asl P G H t x lo hi K):
   ∃z,K z/\(gt G->∀(u:Value) (U O:Option Value),rep S w x u->(∀y,lo=some y->∃v,U=some v/\rep S w y v)->(lo=none->U=none)->(∀y,hi=some y->∃v,O=some v/\rep S w y v)->(hi=none->O=none) ->
     yK P S H' w z (Instr.sliceAt t u U O none)):=by
 unfold asl at h;split at h
 . rename_i k
   split at h
   . rename_i r e sz aa hk he
     obtain⟨J,hz⟩:=G4 he;split at h
     . rename_i ka a kb b
       refine⟨_,h.2,fun hg u U O F hl _ Z _=>?_⟩;obtain⟨⟨h0,h1,h2⟩,Y⟩:=h.1 hg;obtain⟨v,rfl,I⟩:=hl _ rfl;obtain⟨v',rfl,V⟩:=Z _ rfl;simp only[rep]at I V F;subst I V;obtain⟨_,rfl,ad,n,c,E⟩:=F;obtain⟨q1,q2,X⟩:=TN (a:=a.toNat) (b:=b.toNat) hH hk E (by omega) (by omega);rw[E];refine⟨_,X,fun w' _=>?_⟩;rw[run_sliceAt_slice w' t _ _ _ _ J,run_slice_lh w' t ad n c J ka kb a b h0 h1 (by omega),hz,Y];rfl
     . rename_i ka a
       refine⟨_,h.2,fun hg u U O F hl _ _ Z=>?_⟩;obtain⟨⟨h0,h1⟩,Y⟩:=h.1 hg;obtain⟨v,rfl,I⟩:=hl _ rfl;have:=Z rfl;subst this;simp only[rep]at I F;subst I;obtain⟨_,rfl,ad,n,c,E⟩:=F;obtain⟨q1,q2,X⟩:=TN (a:=a.toNat) (b:=r.es.length) hH hk E (by omega) (by omega);rw[E];refine⟨_,X,fun w' _=>?_⟩;rw[run_sliceAt_slice w' t _ _ _ _ J,run_slice_l w' t ad n c J ka a h0 (by omega),hz,Y,q1];rfl
     . rename_i kb b
       refine⟨_,h.2,fun hg u U O F _ hl Z _=>?_⟩;obtain⟨⟨h0,h1⟩,Y⟩:=h.1 hg;obtain⟨v,rfl,I⟩:=Z _ rfl;have:=hl rfl;subst this;simp only[rep]at I F;subst I;obtain⟨_,rfl,ad,n,c,E⟩:=F;obtain⟨q1,q2,X⟩:=TN (a:=0) (b:=b.toNat) hH hk E (by omega) (by omega);rw[E];refine⟨_,X,fun w' _=>?_⟩;rw[run_sliceAt_slice w' t _ _ _ _ J,run_slice_h w' t ad n c J kb b h0 (by omega),hz,Y];rfl
     . exact h.elim
   . exact h.elim
 . exact Mq h
theorem Mh{t:TypeId}{x i:AV}(h:yM P G t x i K):
   ∃z,K z/\(gt G->∀u v,rep S w x u->rep S w i v->yK P S H w z (Instr.index t u v)):=by
 unfold yM at h;split at h
 . rename_i s k n
   split at h
   . rename_i X
     refine⟨_,h.2,fun J u v I F=>?_⟩;obtain⟨h0,h1⟩:=h.1 J;simp only[rep]at I F;subst I F;refine iY mK fun w'=>?_
     rw[run_index_string w' t s k n (gH X),dif_pos ⟨h0,h1⟩];have O:n.toNat<s.data.size:=by have:s.size=s.data.size:=rfl;omega
     congr 4
     rw[Array.getD,dif_pos O];rfl
   . exact h.elim
 . rename_i cs k n
   split at h
   . rename_i m s l Y
     obtain⟨e,aa,I,hi,rfl,_,hl⟩:=JX Y;obtain⟨z,hz,hd⟩:=Eo (S:=S) (H:=H) (w:=w) hl h.2;refine⟨z,hz,fun J u v V F=>?_⟩;obtain⟨h0,h1⟩:=h.1 J;obtain⟨cs',rfl,U⟩:=hd J u V;simp only[rep]at F;subst F;obtain⟨r,Z,E⟩:=U;refine⟨r,Z,fun w' hw=>?_⟩;have:=E w' hw;simp[Instr.index,asIntOf,run_underlying I,h0,h1,sizeOf,typeInfo,hi];simpa using this
   . exact h.elim
 . exact h.elim
def opB(n:Nat):Operand->Bool
 | .tmp t=>decide (t<n)
 | _=>true
def FR(S:Sg)(w:World)(ρ:Env)(a:Act):Prop:=∀t,t<a.tmps.size->rep S w (ρ t) (a.tmps.getD t undef)
theorem cV{ρ:Env}{a:Act}(F:FR S w ρ a){x:Operand}(E:opB a.tmps.size x=true):rep S w (aev ρ x) (a.eval x):=by
 cases x with
 | tmp t=>simp only[opB,decide_eq_true_eq]at E;exact F t E
 | const v=>exact DK v
 | global g=>trivial
 | func f=>exact mK
theorem Tb{ρ:Env}{a:Act}(F:FR S w ρ a){x:Operand}(E:opB a.tmps.size x=true):rep S w (Mo ρ x) (a.eval x):=by
 cases x with
 | const v=>exact mK
 | tmp t=>exact cV F E
 | global g=>exact cV F E
 | func f=>exact cV F E
theorem Ee{ρ:Env}{a:Act}(E:FR S w ρ a):∀(l:List Operand),(∀x∈l,opB a.tmps.size x=true)->bG S w (l.map (Mo ρ)) (l.map a.eval)
 | [],_=>rfl
 | x::l,h=>by
   simp only[List.map_cons,bG];exact⟨_,_,rfl,Tb E (h x (by simp)),Ee E l fun y F=>h y (by simp[F])⟩
theorem pI{ρ:Env}{a:Act}(O:FR S w ρ a):∀(l:List (Nat×Operand)) {K:List (Nat×List AV)->Prop},(∀p∈l,opB a.tmps.size p.2=true)->qZ G ρ l K ->
   ∃E,K E/\(gt G->E.length=(l.map fun p=>(p.1,a.eval p.2)).length /\
     ∀(j i:Nat) (c:List AV),E[j]?=some (i,c)->∃(v:Value) (l':List Value),(l.map fun p=>(p.1,a.eval p.2))[j]?=some (i,v)/\v.cells=List.toArray l'/\bG S w c l'/\∀u∈l',u.oneCell'=true)
 | [],K,_,h=>⟨[],h,fun _=>⟨rfl,by simp⟩⟩
 | (i,x)::rest,K,hb,h=>by
   simp only[qZ]at h;obtain⟨y,h,V⟩:=aW (S:=S) (w:=w) h;obtain⟨cs,h,F⟩:=yB (S:=S) (w:=w) h;obtain⟨E,hK,I⟩:=pI O rest (fun p hp=>hb p (by simp[hp])) h;refine⟨_,hK,fun U=>?_⟩;obtain⟨e1,e2⟩:=I U;refine⟨by simpa using e1,fun j k c J=>?_⟩;cases j with
   | zero=>
     simp at J;obtain⟨rfl,rfl⟩:=J;obtain⟨l',X,Y,Z⟩:=F _ (V U _ (cV O (hb (i,x) (by simp))));exact⟨_,l',by simp,X,Y,Z⟩
   | succ j=>simpa using e2 j k c (by simpa using J)
theorem vQ{t:TypeId}{i:TypeInfo}{U:Value}{z:List AV}{pl:List (Nat×Nat)}(hi:P.info? t=some i)(O:i.zero=some U)(h1:∀u∈U.cells.toList,u.oneCell'=true)(hr:bG S w z U.cells.toList)(J:eN P t=some pl){E:List (Nat×List AV)}{vs:List (Nat×Value)}{cs:List AV}
   (hf:rY pl z E=some cs) (hl:E.length=vs.length)
   (hv:∀(j i:Nat) (c:List AV),E[j]?=some (i,c)->∃(v:Value) (l:List Value),vs[j]?=some (i,v)/\v.cells=List.toArray l/\bG S w c l/\∀u∈l,u.oneCell'=true):
   ∃F,P.built t vs=some F/\bG S w cs F.toList/\∀v∈F.toList,v.oneCell'=true:=by
 unfold eN at J;split at J
 . rename_i fs Y
   obtain⟨F,V,X,Z⟩:=Ae (place:=fun i=>pl.toArray[i]?) (fun i on h=>by simpa using h) E vs _ U.cells cs hf hr h1 hl hv;refine⟨F,?_,X,Z⟩;unfold Program.built;simp only[hi,Y,O,J];exact V
 . rename_i n e Y
   cases I:P.info? e with
   | none=>simp[I]at J
   | some ie=>
     simp[I]at J;obtain⟨F,V,X,Z⟩:=Ae (place:=fun i=>some (i*ie.size,ie.size)) (fun i on h=>by
       rw[<-J]at h;simp only[List.getElem?_map,Option.map_eq_some_iff]at h;obtain⟨j,h,rfl⟩:=h;have aa:i<n:=by
         rcases Nat.lt_or_ge i n with h'|h'
         . exact h'
         . simp[List.getElem?_eq_none,h']at h
       simp[aa]at h;rw[h]) E vs _ U.cells cs hf hr h1 hl hv
     refine⟨F,?_,X,Z⟩;unfold Program.built;simp only[hi,Y,O,I];exact V
 . simp at J
theorem LI{t:TypeId}{z:List AV}{J:List (Nat×Nat)}(O:dU P t=some z)(Z:eN P t=some J){E:List (Nat×List AV)}{vs:List (Nat×Value)}{cs:List AV}
   (U:rY J z E=some cs) (V:E.length=vs.length)
   (hv:∀(j i:Nat) (c:List AV),E[j]?=some (i,c)->∃(v:Value) (l:List Value),vs[j]?=some (i,v)/\v.cells=List.toArray l/\bG S w c l/\∀u∈l,u.oneCell'=true):
   ∃F,P.built t vs=some F/\bG S w cs F.toList/\∀v∈F.toList,v.oneCell'=true:=by
 obtain⟨i,Y,hi,I,rfl,X,_,h1⟩:=oB O;exact vQ hi I h1 (mS Y.cells.toList) Z U V hv
end
end Go.Aw
end
section
namespace Go.Aw
open Go.RowKit
section
variable{P:Program}{S:Sg}{H:aK}{w:World}{G:Option Bool}{K:AV->Prop}
theorem Xq{a b:ByteArray}(h:a.toList=b.toList):a=b:=by
 rw[ByteArray.toList_eq,ByteArray.toList_eq]at h;exact ByteArray.ext (Array.toList_inj.1 h)
theorem Wb{t:TypeId}{E:TypeId×TypeId}(h:QY P t=some E):P.underlying t=some (.map E.1 E.2):=by
 unfold QY at h;split at h
 . rename_i k e F
   injection h with h;subst h;exact F
 . simp at h
theorem JR{t:TypeId}{z:AV}(h:Kd P t=some z):∃v,(∀w':World,(zeroValue t).run P w'=.ok v w')/\∀S w,rep S w z v:=by
 unfold Kd at h;split at h
 . rename_i i hi
   split at h
   . rename_i cs F
     split at h
     . rename_i E
       injection h with h;subst h;refine⟨.agg cs,fun w'=>by simp[zeroValue,typeInfo,hi,F],fun S w=>?_⟩;simp only[rep];refine⟨cs.toList,by simp,mS _,fun u I=>List.all_eq_true.1 E u I⟩
     . simp at h
   . rename_i v _ F
     split at h
     . injection h with h
       subst h;exact⟨v,fun w'=>by simp[zeroValue,typeInfo,hi,F],fun S w=>DK _⟩
     . simp at h
   . simp at h
 . simp at h
theorem Jg{kt:TypeId}{x y:AV}{b:Bool}(h:rM P kt x y=some b){u v:Value}(Y:rep S w x u)(Z:rep S w y v):
   ∃d,P.underlying kt=some d/\Instr.sameNow d u v=some b/\(b=true->u=v/\∀n,Instr.sameBits (n+1) v u=true):=by
 unfold rM at h;split at h
 . rename_i a c
   simp only[rep]at Y Z;subst Y Z;split at h
   . rename_i k X
     unfold vX at h;split at h
     . rename_i k1 a1 k2 F O J
       cases O;cases J;split at h
       . rename_i V
         subst V;rcases mM X with⟨_,k',E⟩|⟨h0,_⟩|⟨h0,_⟩
         . injection h with h
           subst h;refine⟨_,E,by simp[Instr.sameNow],fun I=>?_⟩;have:a1=F:=by simpa using I
           subst this;exact⟨rfl,fun n=>by simp[Instr.sameBits]⟩
         . simp at h0
         . simp at h0
       . simp at h
     . rename_i a1 F O J
       cases O;cases J;rcases mM X with⟨h0,_⟩|⟨_,E⟩|⟨h0,_⟩
       . simp at h0
       . injection h with h
         have I:(a1 == F)=b:=by rw[beq_toListBytes];exact h
         refine⟨_,E,by simp[Instr.sameNow,I],fun U=>?_⟩;have:a1=F:=Xq (by rw[U]at h;simpa using h);subst this;exact⟨rfl,fun n=>by simp[Instr.sameBits,beq_toListBytes]⟩
       . simp at h0
     . rename_i a1 F O J
       cases O;cases J;rcases mM X with⟨h0,_⟩|⟨h0,_⟩|⟨_,E⟩
       . simp at h0
       . simp at h0
       . injection h with h
         subst h;refine⟨_,E,by simp[Instr.sameNow],fun I=>?_⟩;have:a1=F:=by simpa using I
         subst this;exact⟨rfl,fun n=>by simp[Instr.sameBits]⟩
     . simp at h
   . simp at h
 . simp at h
theorem Km{Z:TypeId}{x:AV}{u:Value}{d:TypeDesc}(U:P.underlying Z=some d)(X:rep S w x u):∀(es:List (List AV)) (ms:List MapEntry) (i:Nat) {oi:Option Nat},lK S w i es ms->vB (rM P Z x) es i=some oi ->
   (oi=none->Instr.findNow d u ms i=some none)/\∀j,oi=some j->∃m cs,i<=j/\ms[j-i]?=some m/\es[j-i]?=some cs/\Instr.findNow d u ms i=some (some (j,m.val))/\m.key=u/\(∀n,Instr.sameBits (n+1) m.key u=true)/\m.born=j/\bG S w cs [m.key,m.val]
 | [],ms,i,oi,he,F=>by
   simp only[lK]at he;subst he;simp only[vB]at F;injection F with F;subst F;exact⟨fun _=>rfl,fun j h=>by simp at h⟩
 | cs::r,ms,i,oi,he,F=>by
   simp only[lK]at he;obtain⟨m,t,rfl,hb,O,ht⟩:=he;unfold vB at F;have Y:rep S w (cs.getD 0 .any) m.key:=by
     cases cs with
     | nil=>simp[bG]at O
     | cons c cs=>
       simp only[bG]at O;obtain⟨_,_,e,h1,_⟩:=O;injection e with e1 e2;subst e1;simpa using h1
   split at F
   . rename_i I
     injection F with F;subst F;obtain⟨d',E,h1,V⟩:=Jg I X Y;rw[U]at E;injection E with E;subst E;refine⟨fun h=>by simp at h,fun j J=>?_⟩;injection J with J;subst J;exact⟨m,cs,Nat.le_refl _,by simp,by simp,by simp[Instr.findNow,h1],(V rfl).1.symm,(V rfl).2,hb,O⟩
   . rename_i I
     obtain⟨d',E,h1,V⟩:=Jg I X Y;rw[U]at E;injection E with E;subst E;obtain⟨g1,g2⟩:=Km U X r t (i+1) ht F;refine⟨fun h=>by simp[Instr.findNow,h1,g1 h],fun j J=>?_⟩;obtain⟨m',cs',q1,q2,q3,q4,q5⟩:=g2 j J;have e:j-i=(j-(i+1))+1:=by omega
     exact⟨m',cs',by omega,by rw[e];simpa using q2,by rw[e];simpa using q3,by simp[Instr.findNow,h1,q4],q5⟩
   . simp at F
theorem AP:∀(i:Nat) (es:List (List AV)) (ms:List MapEntry),lK S w i es ms->ms.length=es.length
 | _,[],ms,h=>by simp only[lK]at h;simp[h]
 | i,cs::r,ms,h=>by
   simp only[lK]at h;obtain⟨m,t,rfl,_,_,E⟩:=h;simp[AP (i+1) r t E]
theorem PZ:∀(i:Nat) (es:List (List AV)) (ms:List MapEntry) (j:Nat),lK S w i es ms->j<es.length->∃m,ms[j]?=some m/\m.born=i+j/\bG S w (es.getD j []) [m.key,m.val]
 | _,[],_,_,_,h=>by simp at h
 | i,cs::r,ms,0,h,_=>by
   simp only[lK]at h;obtain⟨m,t,rfl,h1,I,_⟩:=h;exact⟨m,by simp,by simpa using h1,by simpa using I⟩
 | i,cs::r,ms,j+1,h,hj=>by
   simp only[lK]at h;obtain⟨m,t,rfl,_,_,J⟩:=h;obtain⟨E,F,O,g3⟩:=PZ (i+1) r t j J (by simpa using hj);exact⟨E,by simpa using F,by omega,by simpa using g3⟩
theorem CF:∀(i:Nat) (es:List (List AV)) (ms:List MapEntry) (j:Nat) {cs:List AV} {m:MapEntry},lK S w i es ms->m.born=i+j->bG S w cs [m.key,m.val]->lK S w i (es.set j cs) (ms.set j m)
 | _,[],ms,_,_,_,h,_,_=>by simp only[lK]at h;subst h;simp[lK]
 | i,c::r,ms,0,cs,m,h,hb,hr=>by
   simp only[lK]at h;obtain⟨F,t,rfl,_,_,E⟩:=h;simp only[List.set_cons_zero,lK];exact⟨m,t,rfl,by simpa using hb,hr,E⟩
 | i,c::r,ms,j+1,cs,m,h,hb,hr=>by
   simp only[lK]at h;obtain⟨F,t,rfl,h1,I,E⟩:=h;simp only[List.set_cons_succ,lK];exact⟨F,t.set j m,rfl,h1,I,CF (i+1) r t j E (by omega) hr⟩
theorem Ch:∀(i:Nat) (es:List (List AV)) (ms:List MapEntry) {cs:List AV} {m:MapEntry},lK S w i es ms->m.born=i+es.length->bG S w cs [m.key,m.val]->lK S w i (es++[cs]) (ms++[m])
 | i,[],ms,cs,m,h,hb,hr=>by
   simp only[lK]at h;subst h;simp only[List.nil_append,lK];exact⟨m,[],rfl,by simpa using hb,hr,rfl⟩
 | i,c::r,ms,cs,m,h,hb,hr=>by
   simp only[lK]at h;obtain⟨E,t,rfl,h1,I,F⟩:=h;simp only[List.cons_append,lK];exact⟨E,t++[m],rfl,h1,I,Ch (i+1) r t F (by simp at hb;omega) hr⟩
theorem AC{E:TypeId}{x:AV}(h:nI P E x=true){u:Value}(F:rep S w x u)(e:Bool)(n:Nat)(w':World):(∃d,P.underlying E=some d)/\(Instr.checkKey e (n+1) E u).run P w'=.ok () w':=by
 unfold nI at h;split at h
 all_goals first|(simp at h;done)|skip
 all_goals
   simp only[beq_iff_eq]at h;simp only[rep]at F;subst F;rcases mM h with⟨h0,k',hk'⟩|⟨h0,hk'⟩|⟨h0,hk'⟩ <;> first
     | (simp at h0;done)
     | exact⟨⟨_,hk'⟩,by unfold Instr.checkKey;simp only[Sem.run_bind,run_underlying hk',Result.andThen];rfl⟩
theorem Qj{t:TypeId}{F:TypeId×TypeId}{x:AV}{r:Row}{k:Nat}{u:Value}{I:Option Nat}(ht:QY P t=some F)(V:nI P F.1 x=true)(X:vB (rM P F.1 x) r.es 0=some I)(hm:Zn S w k r)(J:rep S w x u):
   ∃g E,S.loc k=.map (some g)/\w.heap[g]?=some (.map (List.toArray E) E.length)/\lK S w 0 r.es E/\P.underlying t=some (.map F.1 F.2)/\(∀e (w':World),(Instr.checkKey e 10000 F.1 u).run P w'=.ok () w') /\
     ((I=none/\∀w':World,(Instr.findKey F.1 u E).run P w'=.ok none w') \/
     ∃j m cs,I=some j/\E[j]?=some m/\r.es[j]?=some cs/\(∀w':World,(Instr.findKey F.1 u E).run P w'=.ok (some (j,m.val)) w')/\m.key=u/\(∀n,Instr.sameBits (n+1) m.key u=true)/\m.born=j/\bG S w cs [m.key,m.val]):=by
 obtain⟨g,E,h1,Y,U,_⟩:=hm;obtain⟨⟨d,O⟩,_⟩:=AC V J true 0 w;refine⟨g,E,h1,Y,U,Wb ht,fun e w'=>(AC V J e 9999 w').2,?_⟩;obtain⟨f1,Z⟩:=Km O J r.es E 0 U X;cases I with
 | none=>exact .inl ⟨rfl,fun w'=>by simp[Instr.findKey,run_underlying O,f1 rfl]⟩
 | some j=>
   obtain⟨m,cs,_,q2,q3,q4,q5,q6,q7,q8⟩:=Z j rfl;exact .inr ⟨j,m,cs,rfl,by simpa using q2,by simpa using q3,fun w'=>by simp[Instr.findKey,run_underlying O,q4],q5,q6,q7,q8⟩
theorem Io{cs:List AV}{a b:Value}(h:bG S w cs [a,b]):∃x y,cs=[x,y]/\rep S w x a/\rep S w y b:=by
 cases cs with
 | nil=>simp[bG]at h
 | cons x cs=>
   simp only[bG]at h;obtain⟨u,t,e,h1,E⟩:=h;injection e with I F;subst I F;cases cs with
   | nil=>simp[bG]at E
   | cons y cs=>
     simp only[bG]at E;obtain⟨u,t,e,J,O⟩:=E;injection e with I F;subst I F;cases cs with
     | nil=>exact⟨x,y,rfl,h1,J⟩
     | cons _ _=>simp[bG]at O
theorem IF{t:TypeId}{x I:AV}{ok:Bool}(hH:AK S w H)(h:vG P H t x I ok K):
   ∃z,K z/\(gt G->∀u v,rep S w x u->rep S w I v->yK P S H w z (Instr.lookup t u v ok)):=by
 unfold vG Er at h;split at h
 . rename_i j
   split at h
   . rename_i r kt hj ht
     split at h
     . rename_i oi hf
       obtain⟨hp,h⟩:=h;split at h
       . rename_i z hz
         refine⟨_,h,fun _ u v hu hv=>?_⟩;simp only[rep]at hu;obtain⟨_,rfl,g0,Y⟩:=hu;obtain⟨g,ms,h1,h2,h3,V,U,X⟩:=Qj ht hp hf ((hH j r hj).mp Y) hv;obtain⟨Z,O,J⟩:=JR hz;have E:∀w',Agree S H w w'->w'.heap[g]?=some (.map (List.toArray ms) ms.length):=fun w' F=>(F.own j r hj g (by rw[h1];rfl)).trans h2
         rcases X with⟨rfl,X⟩|⟨i,m,cs,rfl,q1,q2,q3,q4,q5,q6,q7⟩
         . cases ok with
           | false=>
             refine⟨Z,J S w,fun w' F=>?_⟩;simp[Instr.lookup,run_underlying V,h1,MapKept.run_getObj_map (E w' F),U,X,O,Gd]
           | true=>
             refine⟨.tuple #[Z,.bool false],?_,fun w' F=>?_⟩
             . simp only[Gd,if_true,rep,bG]
               exact⟨[Z,.bool false],by simp,_,_,rfl,J S w,_,_,rfl,rfl,rfl⟩
             . simp[Instr.lookup,run_underlying V,h1,MapKept.run_getObj_map (E w' F),U,X,O,Gd]
         . obtain⟨xk,xv,rfl,r1,r2⟩:=Io q7
           have e1:(r.es.getD i []).getD 1 .any=xv:=by simp[List.getD,q2]
           cases ok with
           | false=>
             refine⟨m.val,by simp only[Gd,e1];exact r2,fun w' F=>?_⟩;simp[Instr.lookup,run_underlying V,h1,MapKept.run_getObj_map (E w' F),U,q3]
           | true=>
             refine⟨.tuple #[m.val,.bool true],?_,fun w' F=>?_⟩
             . simp only[Gd,if_true,e1,rep,bG]
               exact⟨[m.val,.bool true],by simp,_,_,rfl,r2,_,_,rfl,rfl,rfl⟩
             . simp[Instr.lookup,run_underlying V,h1,MapKept.run_getObj_map (E w' F),U,q3]
       . exact h.elim
     . exact h.elim
   . exact h.elim
 . exact h.elim
end
end Go.Aw
end
section
namespace Go.Aw
open Go.RowKit
section
variable{P:Program}{S:Sg}{H:aK}{w:World}{G:Option Bool}{K:AV->Prop}
theorem Bm{s:Sem Value}{v:Value}{w':World}(h:s.run P w'=.ok v w'):(do pure (Next.value (<-s)):Sem Next).run P w'=.ok (.value v) w':=by
 simp[h]
def mY(P:Program)(S:Sg)(H:aK)(w:World)(a:Act)(op:Op)(z:AV):Prop:=
 ∃v,rep S w z v/\∀w',Agree S H w w'->∀o:Oper,o.op=op->(execOp a.eval o).run P w'=.ok (.value v) w'
theorem mY.of_does{a:Act}{op:Op}{z:AV}{s:Sem Value}(F:yK P S H w z s)(I:∀o:Oper,o.op=op->execOp a.eval o=(do pure (Next.value (<-s)):Sem Next)):mY P S H w a op z:=by
 obtain⟨v,O,J⟩:=F;exact⟨v,O,fun w' E o U=>by rw[I o U];exact Bm (J w' E)⟩
theorem oL{G:Option Bool}{ρ:Env}{a:Act}(J:FR S w ρ a):∀(l:List Operand) {K:List AV->Prop},(∀x∈l,opB a.tmps.size x=true)->Bo G ρ l K ->
   ∃E,K E/\(gt G->bG S w E (l.map a.eval))
 | [],K,_,h=>⟨[],h,fun _=>by simp[bG]⟩
 | x::rest,K,hb,h=>by
   simp only[Bo]at h;obtain⟨y,h,O⟩:=aW (S:=S) (w:=w) h;obtain⟨E,V,F⟩:=oL J rest (fun x U=>hb x (by simp[U])) h;refine⟨_,V,fun I=>?_⟩;simp only[List.map_cons,bG];exact⟨_,_,rfl,O I _ (cV J (hb x (by simp))),F I⟩
theorem EJ{ρ:Env}{a:Act}{op:Op}(hb:∀x∈op.operands,opB a.tmps.size x=true)(hF:FR S w ρ a)(hH:AK S w H)(h:iP P G ρ H op K):
   ∃z,K z/\(gt G->mY P S H w a op z):=by
 have ev:=fun x O=>cV hF (hb x O)
 cases op <;> simp only[iP]at h <;> simp only[Op.operands]at ev hb <;> try exact h.elim
 case move x=>
   obtain⟨z,I,U⟩:=aW (S:=S) (w:=w) h;exact⟨z,I,fun E=>⟨_,U E _ (ev x (by simp)),fun w' _ o F=>by simp[execOp,F]⟩⟩
 case assign x=>
   obtain⟨z,I,U⟩:=aW (S:=S) (w:=w) h;exact⟨z,I,fun E=>⟨_,U E _ (ev x (by simp)),fun w' _ o F=>by simp[execOp,F]⟩⟩
 case pick c x y=>
   obtain⟨zc,h,Z⟩:=aW (S:=S) (w:=w) h;split at h
   . rename_i b
     obtain⟨z,I,U⟩:=MV (S:=S) (w:=w) h;refine⟨z,I,fun E=>?_⟩;have e:=abJ (Z E _ (ev c (by simp)));refine⟨_,U E _ _ (ev x (by simp)) (ev y (by simp)),fun w' _ o F=>?_⟩;simp[execOp,F,e,asBool]
   . exact h.elim
 case build t parts=>
   obtain⟨ps,h,ai⟩:=pI hF parts.toList (fun p hp=>hb p.2 (by simpa using⟨p.1,by simpa using hp⟩)) h;unfold yR at h;split at h
   . rename_i z pl I ah
     split at h
     . rename_i cs af
       refine⟨_,h,fun E=>?_⟩;obtain⟨e1,e2⟩:=ai E;obtain⟨A',f1,f2,f3⟩:=LI (S:=S) (w:=w) I ah af e1 e2;refine⟨.agg A',by simp only[rep];exact⟨A'.toList,by simp,f2,f3⟩,fun w' _ o F=>?_⟩;have:(parts.map fun(p:Nat×Operand)=>(p.1,a.eval p.2)).toList=parts.toList.map fun p=>(p.1,a.eval p.2):=by simp
       rw[<-this]at f1;simp only[execOp,F];exact Bm (run_build w' t _ A' f1)
     . exact h.elim
   . exact h.elim
 case load t x=>
   split at h
   . rename_i l hl
     obtain⟨y,h,U⟩:=aW (S:=S) (w:=w) h;obtain⟨z,I,V⟩:=Et hl hH h;exact⟨z,I,fun E=>mY.of_does (V E _ (U E _ (ev x (by simp)))) (fun o F=>by simp[execOp,F])⟩
   . exact h.elim
 case nilCheck x=>
   obtain⟨y,h,U⟩:=aW (S:=S) (w:=w) h;split at h
   . refine⟨_,h,fun E=>?_⟩
     have e:=U E _ (ev x (by simp));refine⟨_,e,fun w' _ o F=>?_⟩;simp only[rep]at e;obtain⟨b,p,e,_⟩:=e;simp[execOp,F,e]
   . refine⟨_,h,fun E=>?_⟩
     have e:=U E _ (ev x (by simp));refine⟨_,e,fun w' _ o F=>?_⟩;simp only[rep]at e;obtain⟨_,b,p,c,_,e⟩:=e;simp[execOp,F,e]
   . exact h.elim
 case binOp op t x y t'=>
   split at h
   . rename_i ac
     have U:y=.const (.slice none 0 0):=by
       unfold uD at ac;split at ac
       . rfl
       . simp at ac
     subst U;obtain⟨x',h,O⟩:=aW (S:=S) (w:=w) h;obtain⟨ag,h⟩:=h;obtain⟨e,ak⟩:=AM ag;have J:∀(b:Bool) (Y:Option Addr) (n c:Nat),a.eval x=.slice Y n c->(op=.eql/\b=Y.isNone\/op=.neq/\b= !Y.isNone)->mY P S H w a (.binOp op t x (.const (.slice none 0 0)) t') (.v (.bool b)):=by
       intro b Y n c O hb;refine⟨.bool b,by simp only[rep],fun w' _ o F=>?_⟩;have ec:a.eval (.const (.slice none 0 0))=.slice none 0 0:=rfl;simp only[execOp,F,O,ec];have E:(eqGuard op t x (.const (.slice none 0 0)) (.slice Y n c) (.slice none 0 0)).run P w'=.ok () w':=jS op t x _ _ _ (by simp) (by simp) w';have he:(Op.equal t (.slice Y n c) (.slice none 0 0)).run P w'=.ok Y.isNone w':=by
         have e0:Op.equal t (.slice Y n c) (.slice none 0 0)=Op.equalIn (9999+1) t (.slice Y n c) (.slice none 0 0):=rfl;rw[e0];unfold Op.equalIn;cases Y <;> simp[run_underlying ak]
       rcases hb with⟨rfl,rfl⟩|⟨rfl,rfl⟩
       . exact Bm (by simp only[Sem.run_bind,E,Result.andThen_ok];simp[binOp,he])
       . exact Bm (by simp only[Sem.run_bind,E,Result.andThen_ok];simp[binOp,he])
     by_cases E:gt G
     . have ex:=O E _ (ev x (by simp))
       unfold rO at h;split at h
       . simp only[rep]at ex
         obtain⟨Y,n,c,hv,hl,_,_,Z⟩:=ex;cases Y with
         | none=>
           rcases Z with Z|⟨b,o,sz,Z,_⟩
           . exact⟨_,h.1 Z,fun _=>J _ _ _ _ hv (.inl ⟨rfl,rfl⟩)⟩
           . simp at Z
         | some Y=>exact⟨_,h.2,fun _=>J _ _ _ _ hv (.inl ⟨rfl,rfl⟩)⟩
       . simp only[rep]at ex
         obtain⟨Y,n,c,hv,hl,_,_,Z⟩:=ex;cases Y with
         | none=>
           rcases Z with Z|⟨b,o,sz,Z,_⟩
           . exact⟨_,h.1 Z,fun _=>J _ _ _ _ hv (.inr ⟨rfl,rfl⟩)⟩
           . simp at Z
         | some Y=>exact⟨_,h.2,fun _=>J _ _ _ _ hv (.inr ⟨rfl,rfl⟩)⟩
       . simp only[rep]at ex
         obtain⟨_,_,Y,n,c,hv⟩:=ex;cases Y with
         | none=>exact⟨_,h.1,fun _=>J _ _ _ _ hv (.inl ⟨rfl,rfl⟩)⟩
         | some Y=>exact⟨_,h.2,fun _=>J _ _ _ _ hv (.inl ⟨rfl,rfl⟩)⟩
       . simp only[rep]at ex
         obtain⟨_,_,Y,n,c,hv⟩:=ex;cases Y with
         | none=>exact⟨_,h.1,fun _=>J _ _ _ _ hv (.inr ⟨rfl,rfl⟩)⟩
         | some Y=>exact⟨_,h.2,fun _=>J _ _ _ _ hv (.inr ⟨rfl,rfl⟩)⟩
       . simp only[rep]at ex
         exact⟨_,h,fun _=>J _ none 0 0 ex (.inl ⟨rfl,rfl⟩)⟩
       . simp only[rep]at ex
         exact⟨_,h,fun _=>J _ none 0 0 ex (.inr ⟨rfl,rfl⟩)⟩
       . exact h.elim
     . unfold rO at h
       split at h
       . exact⟨_,h.2,fun X=>absurd X E⟩
       . exact⟨_,h.2,fun X=>absurd X E⟩
       . exact⟨_,h.2,fun X=>absurd X E⟩
       . exact⟨_,h.2,fun X=>absurd X E⟩
       . exact⟨_,h,fun X=>absurd X E⟩
       . exact⟨_,h,fun X=>absurd X E⟩
       . exact h.elim
   obtain⟨x',h,O⟩:=aW (S:=S) (w:=w) h;obtain⟨y',h,U⟩:=aW (S:=S) (w:=w) h;obtain⟨z,I,V⟩:=Tz (S:=S) (H:=H) (w:=w) h;exact⟨z,I,fun E=>mY.of_does (V E _ _ (O E _ (ev x (by simp))) (U E _ (ev y (by simp))) x y) (fun o F=>by simp[execOp,F])⟩
 case unOp op t x=>
   obtain⟨x',h,O⟩:=aW (S:=S) (w:=w) h;obtain⟨z,I,V⟩:=VI (P:=P) (S:=S) (H:=H) (w:=w) h;exact⟨z,I,fun E=>mY.of_does (V _ (O E _ (ev x (by simp)))) (fun o F=>by simp[execOp,F])⟩
 case convert src dst x=>
   obtain⟨x',h,O⟩:=aW (S:=S) (w:=w) h;obtain⟨z,I,V⟩:=OF (S:=S) (H:=H) (w:=w) h;exact⟨z,I,fun E=>mY.of_does (V _ (O E _ (ev x (by simp)))) (fun o F=>by simp[execOp,F])⟩
 case slice t x lo hi m=>
   cases m with
   | some m=>
     cases lo with
     | some lo=>exact h.elim
     | none=>
       cases hi with
       | none=>exact h.elim
       | some hi=>
         simp only at h;obtain⟨x',h,O⟩:=aW (S:=S) (w:=w) h;obtain⟨ae,h,aa⟩:=aW (S:=S) (w:=w) h;obtain⟨m',h,hm⟩:=aW (S:=S) (w:=w) h;obtain⟨z,I,V⟩:=EO (S:=S) (w:=w) (H:=H) h;exact⟨z,I,fun E=>mY.of_does (V E _ _ _ (O E _ (ev x (by simp))) (aa E _ (ev hi (by simp))) (hm E _ (ev m (by simp)))) (fun o F=>by simp[execOp,F])⟩
   | none=>
     simp only at h;obtain⟨x',h,O⟩:=aW (S:=S) (w:=w) h;cases lo with
     | some lo=>
       cases hi with
       | some hi=>
         obtain⟨al,h,ab⟩:=aW (S:=S) (w:=w) h;obtain⟨ae,h,aa⟩:=aW (S:=S) (w:=w) h;obtain⟨z,I,V⟩:=sZ hH h;refine⟨z,I,fun E=>mY.of_does (V E _ (some (a.eval lo)) (some (a.eval hi)) (O E _ (ev x (by simp))) ?_ (by simp) ?_ (by simp)) (fun o F=>by simp[execOp,F])⟩
         . intro y U;injection U with U;subst U;exact⟨_,rfl,ab E _ (ev lo (by simp))⟩
         . intro y U;injection U with U;subst U;exact⟨_,rfl,aa E _ (ev hi (by simp))⟩
       | none=>
         obtain⟨al,h,ab⟩:=aW (S:=S) (w:=w) h;obtain⟨z,I,V⟩:=sZ hH h;refine⟨z,I,fun E=>mY.of_does (V E _ (some (a.eval lo)) none (O E _ (ev x (by simp))) ?_ (by simp) (by simp) (by simp)) (fun o F=>by simp[execOp,F])⟩;intro y U;injection U with U;subst U;exact⟨_,rfl,ab E _ (ev lo (by simp))⟩
     | none=>
       cases hi with
       | some hi=>
         obtain⟨ae,h,aa⟩:=aW (S:=S) (w:=w) h;obtain⟨z,I,V⟩:=sZ hH h;refine⟨z,I,fun E=>mY.of_does (V E _ none (some (a.eval hi)) (O E _ (ev x (by simp))) (by simp) (by simp) ?_ (by simp)) (fun o F=>by simp[execOp,F])⟩;intro y U;injection U with U;subst U;exact⟨_,rfl,aa E _ (ev hi (by simp))⟩
       | none=>exact h.elim
 case fieldAddr t x f=>
   obtain⟨x',h,O⟩:=aW (S:=S) (w:=w) h;obtain⟨z,I,V⟩:=DF (G:=G) (S:=S) (H:=H) (w:=w) h;exact⟨z,I,fun E=>mY.of_does (V E _ (O E _ (ev x (by simp)))) (fun o F=>by simp[execOp,F])⟩
 case field t x f=>
   split at h
   . rename_i o l F
     obtain⟨x',h,O⟩:=aW (S:=S) (w:=w) h;obtain⟨fs,fd,i,hu,hf,rfl,hi,_,hl⟩:=By F;obtain⟨z,I,V⟩:=Eo (S:=S) (H:=H) (w:=w) hl h;refine⟨z,I,fun E=>?_⟩;obtain⟨cs,e,V⟩:=V E _ (O E _ (ev x (by simp)));refine mY.of_does (s:=Instr.field t (.agg cs) f) ?_ (fun o F=>by simp[execOp,F,e]);obtain⟨v,hv,hr⟩:=V;refine⟨v,hv,fun w' ha=>?_⟩;simp[Instr.field,run_underlying hu,hf,asAgg,hr w' ha]
   . exact h.elim
 case indexAddr t x i=>
   obtain⟨x',h,O⟩:=aW (S:=S) (w:=w) h;obtain⟨i',h,hi⟩:=aW (S:=S) (w:=w) h;obtain⟨z,I,V⟩:=DT hH h;exact⟨z,I,fun E=>mY.of_does (V E _ _ (O E _ (ev x (by simp))) (hi E _ (ev i (by simp)))) (fun o F=>by simp[execOp,F])⟩
 case index t x i=>
   obtain⟨x',h,O⟩:=aW (S:=S) (w:=w) h;obtain⟨i',h,hi⟩:=aW (S:=S) (w:=w) h;obtain⟨z,I,V⟩:=Mh (S:=S) (H:=H) (w:=w) h;exact⟨z,I,fun E=>mY.of_does (V E _ _ (O E _ (ev x (by simp))) (hi E _ (ev i (by simp)))) (fun o F=>by simp[execOp,F])⟩
 case extract x i=>
   obtain⟨x',h,O⟩:=aW (S:=S) (w:=w) h;split at h
   . rename_i vs
     refine⟨_,h.2,fun E=>?_⟩;have e:=O E _ (ev x (by simp));simp only[rep]at e;obtain⟨l,e,hl⟩:=e;obtain⟨u,h1,h2⟩:=CL vs l i hl (h.1 E);exact⟨u,h2,fun w' _ o F=>by simp[execOp,F,e,Instr.extract,h1]⟩
   . exact h.elim
 case lookup t x i ok=>
   obtain⟨x',h,O⟩:=aW (S:=S) (w:=w) h;obtain⟨i',h,hi⟩:=aW (S:=S) (w:=w) h;obtain⟨z,I,V⟩:=IF (G:=G) hH h;exact⟨z,I,fun E=>mY.of_does (V E _ _ (O E _ (ev x (by simp))) (hi E _ (ev i (by simp)))) (fun o F=>by simp[execOp,F])⟩
 case makeFunc f first cap=>
   cases f <;> simp only at h <;> try exact h.elim
   rename_i f
   obtain⟨hf,h⟩:=h;subst hf;obtain⟨ys,I,aj⟩:=oL hF cap.toList (fun x O=>hb x (by simp[Array.mem_toList_iff.1 O])) h;refine⟨_,I,fun E=>⟨.func (.func f) #[] (cap.map a.eval),?_,fun w' _ o F=>by simp[execOp,F,Instr.makeFunc]⟩⟩;simp only[rep];exact⟨cap.toList.map a.eval,by rw[<-Array.toList_map],aj E⟩
theorem Cl{H':aK}{ρ:Env}{a:Act}{t:TypeId}{x:Operand}{lo hi m:Option Operand}(hb:∀y∈(Op.slice t x lo hi m).operands,opB a.tmps.size y=true)(hF:FR S w ρ a)(hH:AK S w H)(h:iP P G ρ H (.slice t x lo hi m) K):
   ∃z,K z/\(gt G->mY P S H' w a (.slice t x lo hi m) z):=by
 have ev:=fun x U=>cV hF (hb x U)
 simp only[iP]at h;simp only[Op.operands]at ev hb;cases m with
 | some m=>
   cases lo with
   | some lo=>exact h.elim
   | none=>
     cases hi with
     | none=>exact h.elim
     | some hi=>
       simp only at h;obtain⟨x',h,U⟩:=aW (S:=S) (w:=w) h;obtain⟨Y,h,I⟩:=aW (S:=S) (w:=w) h;obtain⟨m',h,hm⟩:=aW (S:=S) (w:=w) h;obtain⟨z,J,V⟩:=EO (S:=S) (w:=w) (H:=H') h;exact⟨z,J,fun E=>mY.of_does (V E _ _ _ (U E _ (ev x (by simp))) (I E _ (ev hi (by simp))) (hm E _ (ev m (by simp)))) (fun o X=>by simp[execOp,X])⟩
 | none=>
   simp only at h;obtain⟨x',h,U⟩:=aW (S:=S) (w:=w) h;cases lo with
   | some lo=>
     cases hi with
     | some hi=>
       obtain⟨Z,h,O⟩:=aW (S:=S) (w:=w) h;obtain⟨Y,h,I⟩:=aW (S:=S) (w:=w) h;obtain⟨z,J,V⟩:=sZ hH h;refine⟨z,J,fun E=>mY.of_does (V E _ (some (a.eval lo)) (some (a.eval hi)) (U E _ (ev x (by simp))) ?_ (by simp) ?_ (by simp)) (fun o X=>by simp[execOp,X])⟩
       . intro y F;injection F with F;subst F;exact⟨_,rfl,O E _ (ev lo (by simp))⟩
       . intro y F;injection F with F;subst F;exact⟨_,rfl,I E _ (ev hi (by simp))⟩
     | none=>
       obtain⟨Z,h,O⟩:=aW (S:=S) (w:=w) h;obtain⟨z,J,V⟩:=sZ hH h;refine⟨z,J,fun E=>mY.of_does (V E _ (some (a.eval lo)) none (U E _ (ev x (by simp))) ?_ (by simp) (by simp) (by simp)) (fun o X=>by simp[execOp,X])⟩;intro y F;injection F with F;subst F;exact⟨_,rfl,O E _ (ev lo (by simp))⟩
   | none=>
     cases hi with
     | some hi=>
       obtain⟨Y,h,I⟩:=aW (S:=S) (w:=w) h;obtain⟨z,J,V⟩:=sZ hH h;refine⟨z,J,fun E=>mY.of_does (V E _ none (some (a.eval hi)) (U E _ (ev x (by simp))) (by simp) (by simp) ?_ (by simp)) (fun o X=>by simp[execOp,X])⟩;intro y F;injection F with F;subst F;exact⟨_,rfl,I E _ (ev hi (by simp))⟩
     | none=>exact h.elim
end
end Go.Aw
end
section
namespace Go.Aw
def ZZ:Array Value:=(Go.Lib.pow10Tab.map fun z=>Value.int .u64 z).toArray
def RK:Array Value:=(Go.Lib.deBruijn64tab.map fun z:Nat=>Value.int .u8 (z:Int)).toArray
def XN:List (Nat×Array Value):=[(1,ZZ),(3,RK)]
end Go.Aw
end
