/- Texts joined by a program: AwRep, AwOps, AwOps2. -/
import Derived.Test.YtdlijlecpopadaaGreatDoorZv01
set_option linter.unusedSimpArgs false
set_option linter.unusedVariables false
set_option maxRecDepth 100000
section
namespace Go.Aw
open Go.RowKit
structure Sg where
 ro:Nat→Prop
 fz:Nat→Prop
 loc:Nat→Value
 sz:Nat→Nat
 N:Nat
mutual
def rep(S:Sg)(w:World):AV→Value→Prop
 | .v x,y=>y=x
 | .any,_=>True
 | .sl es,y=>∃ad n c,y=.slice ad n c∧es.length=n∧n≤c∧c≤maxLen∧(es=[]∨∃b o sz,ad=some ⟨b,o,none⟩∧S.ro b∧0<sz∧gC S w b sz o es)
 | .rp cs off,y=>∃b o,y=.pointer (some ⟨b,o+off,none⟩)∧S.ro b∧cJ S w b o cs
 | .agg cs,y=>∃l:List Value,y=.agg l.toArray∧aS S w cs l∧∀u∈l,u.oneCell'=true
 | .tup vs,y=>∃l:List Value,y=.tuple l.toArray∧aS S w vs l
 | .os k,y=>k<S.N∧y=S.loc k∧∃a n c,y=.slice a n c
 | .op k i f,y=>k<S.N∧∃g n c,S.loc k=.slice (some ⟨g,0,none⟩) n c∧y=.pointer (some ⟨g,i*S.sz k+f,none⟩)
 | .gd g x,y=>(g=true→rep S w x y)∧(g=false→y=undef)
 | .nf x,y=>rep S w x y
 | .fn f cap,y=>∃l:List Value,y=.func (.func f) #[] l.toArray∧aS S w cap l
 | .om k,y=>k<S.N∧y=S.loc k∧∃g,y=.map (some g)
 | .cl es,y=>∃ad n,y=.slice ad n n∧es.length=n∧n≤maxLen∧(es=[]∨∃b o sz,ad=some ⟨b,o,none⟩∧S.ro b∧0<sz∧gC S w b sz o es)
 | .oz k a b,y=>k<S.N∧∃ad n c ad' cc,S.loc k=.slice ad n c∧y=.slice ad' (b-a) cc∧a≤b∧b≤n∧(a<b→∃g,ad=some ⟨g,0,none⟩∧ad'=some ⟨g,a*S.sz k,none⟩)∧(a=0→ad'=ad∧cc=c)
def aS(S:Sg)(w:World):List AV→List Value→Prop
 | [],l=>l=[]
 | x::r,l=>∃u t,l=u::t∧rep S w x u∧aS S w r t
def cJ(S:Sg)(w:World)(b:Nat):Nat→List AV→Prop
 | _,[]=>True
 | o,x::r=>(∃u,w.cell? ⟨b,o,none⟩=some u∧u.oneCell'=true∧rep S w x u)∧cJ S w b (o+1) r
def gC(S:Sg)(w:World)(b sz:Nat):Nat→List (List AV)→Prop
 | _,[]=>True
 | o,cs::r=>cs.length=sz∧cJ S w b o cs∧gC S w b sz (o+sz) r
end
structure Sg.le(S S':Sg):Prop where
 ro:∀k,S.ro k→S'.ro k
 N:S.N≤S'.N
 loc:∀k,k<S.N→S'.loc k=S.loc k
 sz:∀k,k<S.N→S'.sz k=S.sz k
theorem Sg.le_refl(S:Sg):S.le S:=⟨fun _ h=>h,Nat.le_refl _,fun _ _=>rfl,fun _ _=>rfl⟩
theorem Sg.le_trans{S S' S'':Sg}(h:S.le S')(h':S'.le S''):S.le S'':=
 ⟨fun k hk=>h'.ro k (h.ro k hk),Nat.le_trans h.N h'.N,fun k hk=>(h'.loc k (Nat.lt_of_lt_of_le hk h.N)).trans (h.loc k hk),
   fun k hk=>(h'.sz k (Nat.lt_of_lt_of_le hk h.N)).trans (h.sz k hk)⟩
def blk:Value→Option Nat
 | .slice (some a) _ _=>some a.block
 | .map (some g)=>some g
 | _=>none
def eT(S:Sg)(w w':World):Prop:=∀k,S.ro k→w'.heap[k]?=w.heap[k]?
theorem eT.refl(S:Sg)(w:World):eT S w w:=fun _ _=>rfl
section
variable{S S':Sg}{w w':World}
theorem eT.cell(h:eT S w w'){b o:Nat}(hb:S.ro b):w'.cell? ⟨b,o,none⟩=w.cell? ⟨b,o,none⟩:=World.cell?_of_block (a:=⟨b,o,none⟩) (h b hb)
mutual
theorem jO(hS:S.le S')(hw:eT S w w'):∀(x:AV) (y:Value),rep S w x y→rep S' w' x y
 | .v _,_,h=>h
 | .any,_,_=>trivial
 | .sl es,y,h=>by
   simp only[rep]at h ⊢;obtain⟨ad,n,c,rfl,h1,h2,h3,h4⟩:=h;refine⟨ad,n,c,rfl,h1,h2,h3,?_⟩;rcases h4 with h4|⟨b,o,sz,rfl,hb,hs,he⟩
   · exact .inl h4
   · exact .inr ⟨b,o,sz,rfl,hS.ro b hb,hs,wU hS hw hb sz o es he⟩
 | .rp cs off,y,h=>by
   simp only[rep]at h ⊢;obtain⟨b,o,rfl,hb,hc⟩:=h;exact⟨b,o,rfl,hS.ro b hb,sM hS hw hb o cs hc⟩
 | .agg cs,y,h=>by
   simp only[rep]at h ⊢;obtain⟨l,rfl,hl,h1⟩:=h;exact⟨l,rfl,cX hS hw cs l hl,h1⟩
 | .tup vs,y,h=>by
   simp only[rep]at h ⊢;obtain⟨l,rfl,hl⟩:=h;exact⟨l,rfl,cX hS hw vs l hl⟩
 | .os k,y,h=>by
   simp only[rep]at h ⊢;exact⟨Nat.lt_of_lt_of_le h.1 hS.N,by rw[hS.loc k h.1];exact h.2⟩
 | .op k i f,y,h=>by
   simp only[rep]at h ⊢;refine⟨Nat.lt_of_lt_of_le h.1 hS.N,?_⟩;rw[hS.loc k h.1,hS.sz k h.1];exact h.2
 | .gd g x,y,h=>by
   simp only[rep]at h ⊢;exact⟨fun hg=>jO hS hw x y (h.1 hg),h.2⟩
 | .nf x,y,h=>by
   simp only[rep]at h ⊢;exact jO hS hw x y h
 | .fn f cap,y,h=>by
   simp only[rep]at h ⊢;obtain⟨l,rfl,hl⟩:=h;exact⟨l,rfl,cX hS hw cap l hl⟩
 | .om k,y,h=>by
   simp only[rep]at h ⊢;exact⟨Nat.lt_of_lt_of_le h.1 hS.N,by rw[hS.loc k h.1];exact h.2⟩
 | .oz k a b,y,h=>by
   simp only[rep]at h ⊢;refine⟨Nat.lt_of_lt_of_le h.1 hS.N,?_⟩;rw[hS.loc k h.1,hS.sz k h.1];exact h.2
 | .cl es,y,h=>by
   simp only[rep]at h ⊢;obtain⟨ad,n,rfl,h1,h3,h4⟩:=h;refine⟨ad,n,rfl,h1,h3,?_⟩;rcases h4 with h4|⟨b,o,sz,rfl,hb,hs,he⟩
   · exact .inl h4
   · exact .inr ⟨b,o,sz,rfl,hS.ro b hb,hs,wU hS hw hb sz o es he⟩
theorem cX(hS:S.le S')(hw:eT S w w'):∀(x:List AV) (l:List Value),aS S w x l→aS S' w' x l
 | [],_,h=>h
 | x::r,l,h=>by
   simp only[aS]at h ⊢;obtain⟨u,t,rfl,h1,h2⟩:=h;exact⟨u,t,rfl,jO hS hw x u h1,cX hS hw r t h2⟩
theorem sM(hS:S.le S')(hw:eT S w w'){b:Nat}(hb:S.ro b):∀(o:Nat) (x:List AV),cJ S w b o x→cJ S' w' b o x
 | _,[],_=>trivial
 | o,x::r,h=>by
   simp only[cJ]at h ⊢;obtain⟨⟨u,h1,h2,h3⟩,h4⟩:=h;exact⟨⟨u,by rw[hw.cell hb];exact h1,h2,jO hS hw x u h3⟩,sM hS hw hb (o+1) r h4⟩
theorem wU(hS:S.le S')(hw:eT S w w'){b:Nat}(hb:S.ro b)(sz:Nat):∀(o:Nat) (x:List (List AV)),gC S w b sz o x→gC S' w' b sz o x
 | _,[],_=>trivial
 | o,x::r,h=>by
   simp only[gC]at h ⊢;exact⟨h.1,sM hS hw hb o x h.2.1,wU hS hw hb sz (o+sz) r h.2.2⟩
end
theorem uP:∀(cs:List AV) (o j:Nat) {b:Nat},cJ S w b o cs→j<cs.length→∃u,w.cell? ⟨b,o+j,none⟩=some u∧u.oneCell'=true∧rep S w (cs.getD j .any) u
 | [],_,_,_,_,h=>by simp at h
 | x::r,o,0,b,h,_=>by
   simp only[cJ]at h;simpa using h.1
 | x::r,o,j+1,b,h,hj=>by
   simp only[cJ]at h;have:=uP r (o+1) j h.2 (by simpa using hj);rw[show o+1+j=o+(j+1)by omega]at this;simpa using this
theorem sU:∀(cs:List AV) (o j:Nat) {b:Nat},cJ S w b o cs→cJ S w b (o+j) (cs.drop j)
 | [],_,_,_,_=>by simp[cJ]
 | x::r,o,0,b,h=>by simpa using h
 | x::r,o,j+1,b,h=>by
   simp only[cJ]at h;have:=sU r (o+1) j h.2;rw[show o+1+j=o+(j+1)by omega]at this;simpa using this
theorem tH:∀(cs:List AV) (o j:Nat) {b:Nat},cJ S w b o cs→cJ S w b o (cs.take j)
 | [],_,_,_,_=>by simp[cJ]
 | x::r,o,0,b,h=>by simp[cJ]
 | x::r,o,j+1,b,h=>by
   simp only[cJ,List.take_succ_cons]at h ⊢;exact⟨h.1,tH r (o+1) j h.2⟩
theorem kJ:∀(cs:List AV) (o:Nat) {b:Nat},cJ S w b o cs→∃l:List Value,l.length=cs.length∧aS S w cs l∧(∀u∈l,u.oneCell'=true)∧∀j u,l[j]?=some u→w.cell? ⟨b,o+j,none⟩=some u
 | [],_,_,_=>⟨[],rfl,by simp[aS],by simp,by simp⟩
 | x::r,o,b,h=>by
   simp only[cJ]at h;obtain⟨⟨u,h1,h2,h3⟩,h4⟩:=h;obtain⟨l,e1,e2,e3,e4⟩:=kJ r (o+1) h4;refine⟨u::l,by simp[e1],?_,?_,?_⟩
   · simp only[aS]
     exact⟨u,l,rfl,h3,e2⟩
   · intro v hv
     rcases List.mem_cons.1 hv with rfl|hv
     · exact h2
     · exact e3 v hv
   · intro j v hv
     cases j with
     | zero=>simp at hv;subst hv;simpa using h1
     | succ j=>rw[show o+(j+1)=o+1+j by omega];exact e4 j v (by simpa using hv)
theorem oU:∀(es:List (List AV)) (o i:Nat) {b sz:Nat},gC S w b sz o es→i<es.length→(es.getD i []).length=sz∧cJ S w b (o+i*sz) (es.getD i [])
 | [],_,_,_,_,_,h=>by simp at h
 | x::r,o,0,b,sz,h,_=>by
   simp only[gC]at h;simpa using⟨h.1,h.2.1⟩
 | x::r,o,i+1,b,sz,h,hi=>by
   simp only[gC]at h;have:=oU r (o+sz) i h.2.2 (by simpa using hi);rw[show o+sz+i*sz=o+(i+1)*sz by rw[Nat.add_mul];omega]at this;simpa using this
theorem xE:∀(es:List (List AV)) (o i:Nat) {b sz:Nat},gC S w b sz o es→gC S w b sz (o+i*sz) (es.drop i)
 | [],_,_,_,_,_=>by simp[gC]
 | x::r,o,0,b,sz,h=>by simpa using h
 | x::r,o,i+1,b,sz,h=>by
   simp only[gC]at h;have:=xE r (o+sz) i h.2.2;rw[show o+sz+i*sz=o+(i+1)*sz by rw[Nat.add_mul];omega]at this;simpa using this
theorem sO:∀(es:List (List AV)) (o i:Nat) {b sz:Nat},gC S w b sz o es→gC S w b sz o (es.take i)
 | [],_,_,_,_,_=>by simp[gC]
 | x::r,o,0,b,sz,h=>by simp[gC]
 | x::r,o,i+1,b,sz,h=>by
   simp only[gC,List.take_succ_cons]at h ⊢;exact⟨h.1,h.2.1,sO r _ i h.2.2⟩
theorem pF:∀(xs ys:List AV) (o:Nat) {b:Nat},cJ S w b o (xs++ys)↔cJ S w b o xs∧cJ S w b (o+xs.length) ys
 | [],ys,o,b=>by simp[cJ]
 | x::r,ys,o,b=>by
   simp only[List.cons_append,cJ,pF r ys (o+1),List.length_cons,show o+1+r.length=o+(r.length+1)by omega,and_assoc]
theorem tL:∀(es:List (List AV)) (o:Nat) {b sz:Nat},gC S w b sz o es→cJ S w b o es.flatten
 | [],_,_,_,_=>by simp[cJ]
 | x::r,o,b,sz,h=>by
   simp only[gC]at h;rw[List.flatten_cons,pF];refine⟨h.2.1,?_⟩;rw[h.1];exact tL r _ h.2.2
theorem nK:∀(es:List (List AV)) (o:Nat) {b sz:Nat},(∀cs∈es,cs.length=sz)→cJ S w b o es.flatten→gC S w b sz o es
 | [],_,_,_,_,_=>by simp[gC]
 | x::r,o,b,sz,hl,h=>by
   rw[List.flatten_cons,pF]at h;have hx:=hl x (by simp);rw[hx]at h;simp only[gC];exact⟨hx,h.1,nK r _ (fun cs hc=>hl cs (by simp[hc])) h.2⟩
theorem jL:∀(es:List (List AV)) {sz:Nat},(∀cs∈es,cs.length=sz)→es.flatten.length=es.length*sz
 | [],_,_=>by simp
 | x::r,sz,hl=>by
   rw[List.flatten_cons,List.length_append,hl x (by simp),jL r (fun cs hc=>hl cs (by simp[hc])),List.length_cons,Nat.add_mul];omega
theorem fT:∀(x:List AV) (l:List Value),aS S w x l→l.length=x.length
 | [],l,h=>by simp only[aS]at h;simp[h]
 | x::r,l,h=>by
   simp only[aS]at h;obtain⟨u,t,rfl,_,h2⟩:=h;simp[fT r t h2]
theorem zD:∀(x:List AV) (l:List Value) (j:Nat),aS S w x l→j<x.length→∃u,l[j]?=some u∧rep S w (x.getD j .any) u
 | [],_,_,_,h=>by simp at h
 | x::r,l,j,h,hj=>by
   simp only[aS]at h;obtain⟨u,t,rfl,h1,h2⟩:=h;cases j with
   | zero=>exact⟨u,by simp,by simpa using h1⟩
   | succ j=>
     obtain⟨v,hv,hr⟩:=zD r t j h2 (by simpa using hj);exact⟨v,by simpa using hv,by simpa using hr⟩
theorem cZ:∀(x y:List AV) (l m:List Value),aS S w x l→aS S w y m→aS S w (x++y) (l++m)
 | [],y,l,m,h,h'=>by simp only[aS]at h;subst h;simpa using h'
 | x::r,y,l,m,h,h'=>by
   simp only[aS]at h;obtain⟨u,t,rfl,h1,h2⟩:=h;simp only[List.cons_append,aS];exact⟨u,t++m,rfl,h1,cZ r y t m h2 h'⟩
theorem rL:∀(x:List AV) (l:List Value) (j:Nat),aS S w x l→aS S w (x.drop j) (l.drop j)
 | [],l,j,h=>by simp only[aS]at h;subst h;simp[aS]
 | x::r,l,j,h=>by
   cases j with
   | zero=>simpa using h
   | succ j=>
     simp only[aS]at h;obtain⟨u,t,rfl,_,h2⟩:=h;simpa using rL r t j h2
theorem pA:∀(x:List AV) (l:List Value) (j:Nat),aS S w x l→aS S w (x.take j) (l.take j)
 | [],l,j,h=>by simp only[aS]at h;subst h;simp[aS]
 | x::r,l,j,h=>by
   cases j with
   | zero=>simp[aS]
   | succ j=>
     simp only[aS]at h;obtain⟨u,t,rfl,h1,h2⟩:=h;simp only[List.take_succ_cons,aS];exact⟨u,t.take j,rfl,h1,pA r t j h2⟩
theorem iF:∀(x:List AV) (l:List Value) (o:Nat) {b:Nat},aS S w x l→(∀u∈l,u.oneCell'=true)→(∀j u,l[j]?=some u→w.cell? ⟨b,o+j,none⟩=some u)→cJ S w b o x
 | [],_,_,_,_,_,_=>by simp[cJ]
 | x::r,l,o,b,h,h1,hc=>by
   simp only[aS]at h;obtain⟨u,t,rfl,hu,ht⟩:=h;simp only[cJ];refine⟨⟨u,by simpa using hc 0 u (by simp),h1 u (by simp),hu⟩,iF r t (o+1) ht (fun v hv=>h1 v (by simp[hv])) fun j v hv=>?_⟩;rw[show o+1+j=o+(j+1)by omega];exact hc (j+1) v (by simpa using hv)
end
end Go.Aw
end
section
namespace Go.Aw
open Go.RowKit
def jN(S:Sg)(w:World):Nat→List (List AV)→List MapEntry→Prop
 | _,[],ms=>ms=[]
 | i,cs::r,ms=>∃m t,ms=m::t∧m.born=i∧aS S w cs [m.key,m.val]∧jN S w (i+1) r t
def Fx(S:Sg)(w:World)(k:Nat)(r:Row):Prop:=∃xs,w.ownsRow 0 r.e r.sz (S.loc k) r.es.length xs∧aS S w r.es.flatten xs∧∀u∈xs,u.oneCell'=true
def Rz(S:Sg)(w:World)(k:Nat)(r:Row):Prop:=∃g ms,S.loc k=.map (some g)∧w.heap[g]?=some (.map (List.toArray ms) ms.length)∧jN S w 0 r.es ms∧r.sz=2
theorem Xc(a:Option Addr)(n c:Nat):blk (.slice a n c)=(Value.slice a n c).ownBlock:=by cases a <;> rfl
structure RowOK(S:Sg)(w:World)(k:Nat)(r:Row):Prop where
 lt:k<S.N
 sz:r.sz=S.sz k
 pos:0<r.sz
 len:∀cs∈r.es,cs.length=r.sz
 own:Fx S w k r∨Rz S w k r
def vF(S:Sg)(w:World)(H:aF):Prop:=∀k r,H k=some r→RowOK S w k r
theorem RowOK.sl{S:Sg}{w:World}{k:Nat}{r:Row}(h:RowOK S w k r){a:Option Addr}{n c:Nat}(hs:S.loc k=.slice a n c):Fx S w k r:=by
 rcases h.own with h1|⟨g,ms,h1,_⟩
 · exact h1
 · rw[hs]at h1;cases h1
theorem RowOK.mp{S:Sg}{w:World}{k:Nat}{r:Row}(h:RowOK S w k r){g:Nat}(hs:S.loc k=.map (some g)):Rz S w k r:=by
 rcases h.own with⟨xs,ho,_⟩|h1
 · rcases ho.2 with⟨hv,_⟩|⟨_,_,_,hv,_⟩ <;> (rw[hs]at hv;cases hv)
 · exact h1
structure Agree(S:Sg)(H:aF)(w w':World):Prop where
 kept:eT S w w'
 own:∀k r,H k=some r→∀g,blk (S.loc k)=some g→w'.heap[g]?=w.heap[g]?
theorem Agree.refl(S:Sg)(H:aF)(w:World):Agree S H w w:=⟨eT.refl S w,fun _ _ _ _ _=>rfl⟩
def sI(P:Program)(S:Sg)(H:aF)(w:World)(z:AV)(e:Sem Value):Prop:=
 ∃v,rep S w z v∧∀w',Agree S H w w'→e.run P w'=.ok v w'
section
variable{P:Program}{S:Sg}{H:aF}{w:World}{G:Option Bool}{K:AV→Prop}
theorem kS{x:Value}:rep S w (.v x) x:=by simp only[rep]
theorem rG{t:TypeId}{l:Option Nat}(h:ldT P t=some l):∃d,P.underlying t=some d ∧
   match l with
   | none=>(∀fs,d≠.struct fs)∧∀n e,d≠.array n e
   | some n=>((∃fs,d=.struct fs)∨∃m e,d=.array m e)∧∃i,P.info? t=some i∧i.size=n:=by
 unfold ldT at h;cases hu:P.underlying t with
 | none=>rw[hu]at h;simp at h
 | some d=>
   refine⟨d,rfl,?_⟩;rw[hu]at h;cases hi:P.info? t with
   | none=>rw[hi]at h;cases d <;> simp at h
   | some i=>
     rw[hi]at h;cases d <;> simp at h <;> subst h <;> simp
theorem oP{t:TypeId}{l:Option Nat}(h:ldT P t=some l)(w:World):(isAgg t).run P w=.ok l.isSome w:=by
 obtain⟨d,hu,hd⟩:=rG h;cases l with
 | none=>
   obtain⟨h1,h2⟩:=hd;simp only[isAgg,Sem.run_bind,run_underlying hu,Result.andThen];cases d <;> simp_all
 | some n=>
   obtain⟨h1,_⟩:=hd;simp only[isAgg,Sem.run_bind,run_underlying hu,Result.andThen];rcases h1 with⟨fs,rfl⟩|⟨m,e,rfl⟩ <;> simp
theorem qS{t:TypeId}{n:Nat}(h:ldT P t=some (some n))(w:World):(sizeOf t).run P w=.ok n w:=by
 obtain⟨d,hu,hd⟩:=rG h;obtain⟨_,i,hi,rfl⟩:=hd;simp[sizeOf,typeInfo,hi]
theorem tP{t:TypeId}(h:ldT P t=some none){a:Addr}{v:Value}(hc:w.cell? a=some v):(loadVar t a).run P w=.ok v w:=by
 simp[loadVar,oP h,hc]
theorem sA{t:TypeId}{l:List Value}(h:ldT P t=some (some l.length)){b o:Nat}(hc:∀j v,l[j]?=some v→w.cell? ⟨b,o+j,none⟩=some v):
   (loadVar t ⟨b,o,none⟩).run P w=.ok (.agg l.toArray) w:=by
 have:=run_loadCells_list (P:=P) w ⟨b,o,none⟩ l (fun j v hj=>by rw[Addr.add_lit];exact hc j v hj);simp[loadVar,oP h,qS h,this]
theorem RowOK.cells{k:Nat}{r:Row}(h:RowOK S w k r){a0:Option Addr}{n0 c0:Nat}(hs:S.loc k=.slice a0 n0 c0)(hne:r.es≠[]):∃g n c,S.loc k=.slice (some ⟨g,0,none⟩) n c∧cJ S w g 0 r.es.flatten∧n=r.es.length:=by
 obtain⟨xs,ho,hr,h1⟩:=h.sl hs;rcases ho.2 with⟨_,hn⟩|⟨g,cap,cur,hv,_⟩
 · exact absurd (List.eq_nil_of_length_eq_zero hn) hne
 · refine⟨g,_,cap,hv,?_,rfl⟩
   refine iF _ xs 0 hr h1 fun j u hu=>?_
   have:=ho.cells (g:=g) (by rw[hv];rfl) j u hu
   rwa [Addr.add_lit]at this
theorem RowOK.els{k:Nat}{r:Row}(h:RowOK S w k r){a0:Option Addr}{n0 c0:Nat}(hs:S.loc k=.slice a0 n0 c0)(hne:r.es≠[]):∃g n c,S.loc k=.slice (some ⟨g,0,none⟩) n c∧gC S w g r.sz 0 r.es∧n=r.es.length:=by
 obtain⟨g,n,c,h1,h2,h3⟩:=h.cells hs hne;exact⟨g,n,c,h1,nK _ _ h.len h2,h3⟩
theorem Agree.cell{w':World}(ha:Agree S H w w'){b o:Nat}{u:Value}(hb:S.ro b)(h:w.cell? ⟨b,o,none⟩=some u):w'.cell? ⟨b,o,none⟩=some u:=(ha.kept.cell hb).trans h
theorem Agree.cellOwn{w':World}(ha:Agree S H w w'){k g n c o:Nat}{r:Row}{u:Value}(hk:H k=some r)(hl:S.loc k=.slice (some ⟨g,0,none⟩) n c)(h:w.cell? ⟨g,o,none⟩=some u):w'.cell? ⟨g,o,none⟩=some u:=by
 have:=ha.own k r hk g (by rw[hl];rfl);exact(World.cell?_of_block (a:=⟨g,o,none⟩) this).trans h
theorem AI{t:TypeId}{l:Option Nat}{x:AV}(hl:ldT P t=some l)(hH:vF S w H)(h:lX G H l x K):
   ∃z,K z∧(gt G→∀u,rep S w x u→sI P S H w z (Instr.loadAt t u)):=by
 unfold lX at h;split at h
 · rename_i cs off
   cases l with
   | none=>
     refine⟨_,h.2,fun hg u hu=>?_⟩;simp only[rep]at hu;obtain⟨b,o,rfl,hb,hc⟩:=hu;obtain⟨v,h1,_,h3⟩:=uP cs o off hc (h.1 hg);refine⟨v,h3,fun w' ha=>?_⟩;simp[Instr.loadAt,Instr.sureAddr,tP hl (ha.cell hb h1)]
   | some n=>
     refine⟨_,h.2,fun hg u hu=>?_⟩;simp only[rep]at hu;obtain⟨b,o,rfl,hb,hc⟩:=hu;obtain⟨l,e1,e2,e3,e4⟩:=kJ _ _ (tH _ _ n (sU cs o off hc));have hlen:=h.1 hg;have hn:l.length=n:=by rw[e1];simp;omega
     refine⟨.agg l.toArray,by simp only[rep];exact⟨l,rfl,e2,e3⟩,fun w' ha=>?_⟩;rw[←hn]at hl;simp[Instr.loadAt,Instr.sureAddr,sA hl (fun j v hj=>ha.cell hb (e4 j v hj))]
 · rename_i k i f
   split at h
   · rename_i r hk
     have hr:=hH k r hk;cases l with
     | none=>
       refine⟨_,h.2,fun hg u hu=>?_⟩;simp only[rep]at hu;obtain⟨_,g,n,c,hloc,rfl⟩:=hu;obtain⟨hi,hf⟩:=h.1 hg;have hne:r.es≠[]:=fun e=>by rw[e]at hi;simp at hi
       obtain⟨g',n',c',hloc',he,_⟩:=hr.els hloc hne;rw[hloc]at hloc';injection hloc' with e1 e2 e3;injection e1 with e1;injection e1 with e1;subst e1;obtain⟨e4,e5⟩:=oU _ 0 i he hi;obtain⟨v,h1,_,h3⟩:=uP _ _ f e5 (by rw[e4];exact hf);refine⟨v,h3,fun w' ha=>?_⟩;rw[←hr.sz];rw[Nat.zero_add]at h1;simp[Instr.loadAt,Instr.sureAddr,tP hl (ha.cellOwn hk hloc h1)]
     | some m=>
       refine⟨_,h.2,fun hg u hu=>?_⟩;simp only[rep]at hu;obtain⟨_,g,n,c,hloc,rfl⟩:=hu;obtain⟨hi,hf⟩:=h.1 hg;have hne:r.es≠[]:=fun e=>by rw[e]at hi;simp at hi
       obtain⟨g',n',c',hloc',he,_⟩:=hr.els hloc hne;rw[hloc]at hloc';injection hloc' with e1 e2 e3;injection e1 with e1;injection e1 with e1;subst e1;obtain⟨e4,e5⟩:=oU _ 0 i he hi;obtain⟨l,e1,e2,e3,e6⟩:=kJ _ _ (tH _ _ m (sU _ _ f e5));have hn:l.length=m:=by rw[e1,List.length_take,List.length_drop,e4];omega
       refine⟨.agg l.toArray,by simp only[rep];exact⟨l,rfl,e2,e3⟩,fun w' ha=>?_⟩;rw[←hn]at hl;rw[←hr.sz];rw[Nat.zero_add]at e6;simp[Instr.loadAt,Instr.sureAddr,sA hl (fun j v hj=>ha.cellOwn hk hloc (e6 j v hj))]
   · exact h.elim
 · exact h.elim
theorem mD{t:TypeId}(h:ldT P t=some none){l:List Value}{o:Nat}{u:Value}(hu:l[o]?=some u):(part t l.toArray o).run P w=.ok u w:=by
 simp[part,oP h,hu]
theorem Di{t:TypeId}{n:Nat}(h:ldT P t=some (some n)){l:List Value}{o:Nat}:(part t l.toArray o).run P w=.ok (.agg ((l.drop o).take n).toArray) w:=by
 simp[part,oP h,qS h,List.extract_eq_take_drop]
theorem AB{t:TypeId}{l:Option Nat}{x:AV}{off:Nat}(hl:ldT P t=some l)(h:apart G off l x K):
   ∃z,K z∧(gt G→∀u,rep S w x u→∃cs:Array Value,u=.agg cs∧sI P S H w z (part t cs off)):=by
 unfold apart at h;split at h
 · rename_i cs
   cases l with
   | none=>
     refine⟨_,h.2,fun hg u hu=>?_⟩;simp only[rep]at hu;obtain⟨l,rfl,h1,_⟩:=hu;obtain⟨v,e1,e2⟩:=zD cs l off h1 (h.1 hg);exact⟨_,rfl,v,e2,fun w' _=>mD hl e1⟩
   | some n=>
     refine⟨_,h.2,fun hg u hu=>?_⟩;simp only[rep]at hu;obtain⟨l,rfl,h1,h2⟩:=hu;refine⟨_,rfl,_,?_,fun w' _=>Di hl⟩;simp only[rep];exact⟨_,rfl,pA _ _ n (rL _ _ off h1),fun u hu=>h2 u (List.mem_of_mem_drop (List.mem_of_mem_take hu))⟩
 · exact h.elim
theorem wH{t:TypeId}{f o:Nat}{l:Option Nat}(h:aK P t f=some (o,l)):
   ∃fs fd i,P.underlying t=some (.struct fs)∧fs[f]?=some fd∧fd.offset=o∧P.info? fd.type=some i∧i.size≠0∧ldT P fd.type=some l:=by
 unfold aK at h;cases hu:P.underlying t with
 | none=>simp[hu]at h
 | some d=>
   cases d <;> simp only[hu]at h <;> try (simp at h;done)
   rename_i fs
   cases hf:fs[f]? with
   | none=>simp[hf]at h
   | some fd=>
     simp only[hf]at h;cases hi:P.info? fd.type with
     | none=>simp[hi]at h
     | some i=>
       simp only[hi]at h;split at h
       · simp at h
       · rename_i hz
         cases hl:ldT P fd.type with
         | none=>simp[hl]at h
         | some l'=>
           simp[hl]at h;obtain⟨rfl,rfl⟩:=h;exact⟨fs,fd,i,rfl,hf,rfl,hi,hz,hl⟩
theorem AJ{t:TypeId}{f o:Nat}{l:Option Nat}(h:aK P t f=some (o,l))(b p:Nat)(w:World):
   (Instr.fieldAt t (.pointer (some ⟨b,p,none⟩)) f).run P w=.ok (.pointer (some ⟨b,p+o,none⟩)) w:=by
 obtain⟨fs,fd,i,hu,hf,rfl,hi,hz,_⟩:=wH h;simp[Instr.fieldAt,run_underlying hu,hf,Instr.sureAddr,fieldPlace,sizeOf,typeInfo,hi,hz,Addr.add_lit]
theorem Ap{t:TypeId}{f:Nat}{x:AV}(h:iN P t f x K):
   ∃z,K z∧(gt G→∀u,rep S w x u→sI P S H w z (Instr.fieldAt t u f)):=by
 unfold iN at h;split at h
 · rename_i cs off
   split at h
   · rename_i o l ho
     refine⟨_,h,fun _ u hu=>?_⟩;simp only[rep]at hu;obtain⟨b,p,rfl,hb,hc⟩:=hu;refine⟨_,?_,fun w' _=>AJ ho b (p+off) w'⟩;simp only[rep];exact⟨b,p,by rw[Nat.add_assoc],hb,hc⟩
   · exact h.elim
 · rename_i k i g
   split at h
   · rename_i o l ho
     refine⟨_,h,fun _ u hu=>?_⟩;simp only[rep]at hu;obtain⟨h1,b,n,c,h2,rfl⟩:=hu;refine⟨_,?_,fun w' _=>AJ ho b _ w'⟩;simp only[rep];exact⟨h1,b,n,c,h2,by rw[Nat.add_assoc]⟩
   · exact h.elim
 · exact h.elim
theorem gW{t:TypeId}{e sz bytes:Nat}(h:bY P t=some (e,sz,bytes)):
   ∃i z,P.underlying t=some (.slice e)∧P.info? e=some i∧i.size=sz∧i.bytes=bytes∧0<sz∧0<bytes∧i.zero=some z∧z.cells.size=sz:=by
 unfold bY at h;cases hu:P.underlying t with
 | none=>simp[hu]at h
 | some d=>
   cases d <;> simp only[hu]at h <;> try (simp at h;done)
   rename_i e'
   cases hi:P.info? e' with
   | none=>simp[hi]at h
   | some i=>
     simp only[hi]at h;split at h
     · simp at h
     · rename_i hc
       simp at h;obtain⟨rfl,rfl,rfl⟩:=h;simp only[not_or,ne_eq,Decidable.not_not]at hc;obtain⟨h1,h2,h3⟩:=hc;cases hz:i.zero with
       | none=>simp[hz]at h3
       | some z=>
         simp[hz]at h3;exact⟨i,z,rfl,hi,rfl,rfl,by omega,by omega,hz,h3⟩
theorem EX{t:TypeId}{n s:Nat}{l:Option Nat}(h:qL P t=some (n,s,l)):
   ∃e i,P.underlying t=some (.array n e)∧P.info? e=some i∧i.size=s∧s≠0∧ldT P e=some l:=by
 unfold qL at h;cases hu:P.underlying t with
 | none=>simp[hu]at h
 | some d=>
   cases d <;> simp only[hu]at h <;> try (simp at h;done)
   rename_i m e
   cases hi:P.info? e with
   | none=>simp[hi]at h
   | some i=>
     simp only[hi]at h;split at h
     · simp at h
     · rename_i hz
       cases hl:ldT P e with
       | none=>simp[hl]at h
       | some l'=>
         simp[hl]at h;obtain⟨rfl,rfl,rfl⟩:=h;exact⟨e,i,rfl,hi,rfl,hz,hl⟩
theorem uA{t:TypeId}{e sz bytes:Nat}(h:bY P t=some (e,sz,bytes))(b o len cap:Nat)(k:IntKind)(i:Int)(h0:0≤i)(h1:i<len)(w:World):
   (Instr.indexAt t (.slice (some ⟨b,o,none⟩) len cap) (.int k i)).run P w=.ok (.pointer (some ⟨b,o+i.toNat*sz,none⟩)) w:=by
 obtain⟨inf,z,hu,hi,rfl,_⟩:=gW h;simp[Instr.indexAt,run_underlying hu,asIntOf,h0,h1,sizeOf,typeInfo,hi,Addr.add_lit]
theorem tN{t:TypeId}{n s:Nat}{l:Option Nat}(h:qL P t=some (n,s,l))(b o:Nat)(k:IntKind)(i:Int)(h0:0≤i)(h1:i<n)(w:World):
   (Instr.indexAt t (.pointer (some ⟨b,o,none⟩)) (.int k i)).run P w=.ok (.pointer (some ⟨b,o+i.toNat*s,none⟩)) w:=by
 obtain⟨e,inf,hu,hi,rfl,_⟩:=EX h;simp[Instr.indexAt,run_underlying hu,asIntOf,h0,h1,Instr.sureAddr,sizeOf,typeInfo,hi,Addr.add_lit]
theorem zR{t:TypeId}{x i:AV}(hH:vF S w H)(h:eX P G H t x i K):
   ∃z,K z∧(gt G→∀u v,rep S w x u→rep S w i v→sI P S H w z (Instr.indexAt t u v)):=by
 unfold eX at h;split at h
 · rename_i es k n
   split at h
   · rename_i e sz bytes he
     refine⟨_,h.2,fun hg u v hu hv=>?_⟩;obtain⟨⟨h0,h1⟩,h2⟩:=h.1 hg;simp only[rep]at hu hv;subst hv;obtain⟨ad,m,c,rfl,e1,_,_,e2⟩:=hu;rcases e2 with rfl|⟨b,o,sz',rfl,hb,_,hels⟩
     · simp at h1;omega
     · have hlt:n.toNat<es.length:=by omega
       obtain⟨e3,e4⟩:=oU es o n.toNat hels hlt;have hsz:sz'=sz:=by rw[←e3,h2]
       subst hsz;refine⟨_,?_,fun w' _=>uA he b o m c k n h0 (by omega) w'⟩;simp only[rep];exact⟨b,_,by rw[Nat.add_zero],hb,e4⟩
   · exact h.elim
 · rename_i k ik n
   split at h
   · rename_i r e sz bytes hk he
     refine⟨_,h.2,fun hg u v hu hv=>?_⟩;obtain⟨⟨h0,h1⟩,h2⟩:=h.1 hg;have hr:=hH k r hk;have hne:r.es≠[]:=fun e=>by rw[e]at h1;simp at h1;omega
     simp only[rep]at hu hv;subst hv;obtain⟨hlt,rfl,_,_,_,hloc0⟩:=hu;obtain⟨g,m,c,hloc,_,hm⟩:=hr.els hloc0 hne;rw[hloc];refine⟨_,?_,fun w' _=>uA he g 0 m c ik n h0 (by omega) w'⟩;simp only[rep];exact⟨hlt,g,m,c,hloc,by rw[←hr.sz,h2];simp⟩
   · exact h.elim
 · rename_i cs off k n
   split at h
   · rename_i m s l ha
     refine⟨_,h.2,fun hg u v hu hv=>?_⟩;obtain⟨h0,h1⟩:=h.1 hg;simp only[rep]at hu hv;subst hv;obtain⟨b,o,rfl,hb,hc⟩:=hu;refine⟨_,?_,fun w' _=>tN ha b (o+off) k n h0 h1 w'⟩;simp only[rep];exact⟨b,o,by rw[Nat.add_assoc],hb,hc⟩
   · exact h.elim
 · rename_i k j f ik n
   split at h
   · rename_i m s l ha
     refine⟨_,h.2,fun hg u v hu hv=>?_⟩;obtain⟨h0,h1⟩:=h.1 hg;simp only[rep]at hu hv;subst hv;obtain⟨hlt,g,n',c,hloc,rfl⟩:=hu;refine⟨_,?_,fun w' _=>tN ha g _ ik n h0 h1 w'⟩;simp only[rep];exact⟨hlt,g,n',c,hloc,by rw[Nat.add_assoc]⟩
   · exact h.elim
 · exact h.elim
theorem uM{t:TypeId}(h:cG P t=true):∃e,P.underlying t=some (.slice e):=by
 unfold cG at h;split at h
 · rename_i e he;exact⟨e,he⟩
 · simp at h
theorem fB{t:TypeId}(h:dI P t=true):P.underlying t=some .string:=by
 unfold dI at h;split at h
 · rename_i he;exact he
 · simp at h
theorem L4{t:TypeId}(h:vN P t=true):P.underlying t=some .bool:=by
 unfold vN at h;split at h
 · rename_i he;exact he
 · simp at h
theorem CF{t ty:TypeId}{x:AV}(hH:vF S w H)(h:Dh P H t x K):
   ∃z,K z∧(gt G→∀u,rep S w x u→sI P S H w z (Builtin.len_ #[t] ty #[u])):=by
 unfold Dh at h;split at h
 · rename_i es
   split at h
   · rename_i hs
     obtain⟨e,he⟩:=uM hs;refine⟨_,h,fun _ u hu=>?_⟩;simp only[rep]at hu;obtain⟨ad,m,c,rfl,e1,_⟩:=hu;refine⟨_,kS,fun w' _=>?_⟩;simp[Builtin.len_,run_underlying he,goInt,e1]
   · exact h.elim
 · rename_i k
   split at h
   · rename_i r hk
     split at h
     · rename_i hs
       obtain⟨e,he⟩:=uM hs;refine⟨_,h,fun _ u hu=>?_⟩;simp only[rep]at hu;obtain⟨_,rfl,_,_,_,hloc0⟩:=hu;obtain⟨xs,ho,_⟩:=(hH k r hk).sl hloc0;refine⟨_,kS,fun w' _=>?_⟩;rcases ho.2 with⟨hv,hn⟩|⟨g,cap,cur,hv,_⟩
       · simp[Builtin.len_,run_underlying he,goInt,hv,hn]
       · simp[Builtin.len_,run_underlying he,goInt,hv]
     · exact h.elim
   · exact h.elim
 · rename_i s
   split at h
   · rename_i hs
     refine⟨_,h,fun _ u hu=>?_⟩;simp only[rep]at hu;subst hu;refine⟨_,kS,fun w' _=>?_⟩;simp[Builtin.len_,run_underlying (fB hs),goInt]
   · exact h.elim
 · exact h.elim
theorem BE{x y:AV}{tys:Array TypeId}{ty:TypeId}(h:KW x y K):
   ∃z,K z∧(gt G→∀u v,rep S w x u→rep S w y v→sI P S H w z (Builtin.max_ tys ty #[u,v])):=by
 unfold KW at h;split at h
 · refine⟨_,h,fun _ u v hu hv=>?_⟩
   simp only[rep]at hu hv;subst hu;subst hv;exact⟨_,kS,fun w' _=>by simp[Builtin.max_,Builtin.max2,kC]⟩
 · exact h.elim
theorem CQ{x y:AV}{tys:Array TypeId}{ty:TypeId}(h:L8 x y K):
   ∃z,K z∧(gt G→∀u v,rep S w x u→rep S w y v→sI P S H w z (Builtin.min_ tys ty #[u,v])):=by
 unfold L8 at h;split at h
 · refine⟨_,h,fun _ u v hu hv=>?_⟩
   simp only[rep]at hu hv;subst hu;subst hv;exact⟨_,kS,fun w' _=>by simp[Builtin.min_,Builtin.min2,tQ]⟩
 · exact h.elim
end
end Go.Aw
end
section
namespace Go.Aw
open Go.RowKit
section
variable{P:Program}{S:Sg}{H:aF}{w:World}{G:Option Bool}{K:AV→Prop}
theorem gT{z:AV}{e:Sem Value}{v:Value}(hz:rep S w z v)(h:∀w',e.run P w'=.ok v w'):sI P S H w z e:=⟨v,hz,fun w' _=>h w'⟩
theorem jZ{t:TypeId}{c:Nat}(h:pY P t=some c):(c=0∧∃k,P.underlying t=some (.int k))∨(c=1∧P.underlying t=some .string)∨(c=2∧P.underlying t=some .bool):=by
 unfold pY at h;split at h <;> simp_all
theorem ND{t:TypeId}{c:Nat}(h:pY P t=some c)(hi:(P.info? t).isSome=true):ldT P t=some none:=by
 obtain⟨i,hi⟩:=Option.isSome_iff_exists.1 hi;unfold ldT;rw[hi];rcases jZ h with⟨_,k,hk⟩|⟨_,hk⟩|⟨_,hk⟩ <;> rw[hk]
theorem rU{t:TypeId}{c:Nat}{x y:AV}{u v:Value}{b:Bool}{d:Nat}(ht:pY P t=some c)(h:uZ c x y=some b)(hu:rep S w x u)(hv:rep S w y v)(w':World):
   (Op.equalIn (d+1) t u v).run P w'=.ok b w':=by
 unfold uZ at h;split at h
 · split at h
   · simp only[rep]at hu hv
     subst hu hv
     rename_i hkk
     subst hkk;simp at h;rcases jZ ht with⟨_,k',hk'⟩|⟨h0,_⟩|⟨h0,_⟩
     · rw[run_equalIn_int w' d t _ k' _ _ hk',h]
     · simp at h0
     · simp at h0
   · simp at h
 · simp only[rep]at hu hv
   subst hu hv;rcases jZ ht with⟨h0,_⟩|⟨_,hk'⟩|⟨h0,_⟩
   · simp at h0
   · rw[run_equalIn_string w' d t _ _ hk']
     injection h with h;rw[h]
   · simp at h0
 · simp only[rep]at hu hv
   subst hu hv;rcases jZ ht with⟨h0,_⟩|⟨h0,_⟩|⟨_,hk'⟩
   · simp at h0
   · simp at h0
   · rw[run_equalIn_bool' w' d t _ _ hk']
     injection h with h;rw[h]
 · simp at h
theorem qI:∀(fs:List Field) (l:List Nat) (xs ys:List AV) (o:Nat) (us vs pu pv:List Value) (b:Bool) (d:Nat),
   nC P o fs=some l→gB l xs ys=some b→aS S w xs us→aS S w ys vs→pu.length=o→pv.length=o→∀w':World,
   (Op.eqFields (d+1) (pu++us).toArray (pv++vs).toArray fs).run P w'=.ok b w'
 | [],l,xs,ys,o,us,vs,pu,pv,b,d,hf,he,_,_,_,_,w'=>by
   simp only[nC]at hf;injection hf with hf;subst hf;cases xs <;> cases ys <;> simp[gB]at he;subst he;simp[Op.eqFields]
 | f::fs,l,xs,ys,o,us,vs,pu,pv,b,d,hf,he,hx,hy,e1,e2,w'=>by
   simp only[nC]at hf;split at hf
   · rename_i hc
     simp only[Bool.and_eq_true,bne_iff_ne,ne_eq,beq_iff_eq]at hc;obtain⟨⟨hn,ho⟩,hi⟩:=hc;cases hk:pY P f.type with
     | none=>simp[hk]at hf
     | some c=>
       cases hr:nC P (o+1) fs with
       | none=>simp[hk,hr]at hf
       | some l'=>
         simp[hk,hr]at hf;subst hf;cases xs with
         | nil=>simp[gB]at he
         | cons x xs=>
           cases ys with
           | nil=>simp[gB]at he
           | cons y ys=>
             simp only[gB]at he;cases hb1:uZ c x y with
             | none=>simp[hb1,Jn]at he
             | some b1=>
               cases hb2:gB l' xs ys with
               | none=>simp[hb1,hb2,Jn]at he
               | some b2=>
                 simp[hb1,hb2,Jn]at he;simp only[aS]at hx hy;obtain⟨u,us',rfl,hu,hus⟩:=hx;obtain⟨v,vs',rfl,hv,hvs⟩:=hy;have hld:=ND hk hi;have p1:∀w':World,(part f.type (pu++u::us').toArray f.offset).run P w'=.ok u w':=fun w'=>mD (w:=w') hld (by rw[ho,←e1];simp)
                 have p2:∀w':World,(part f.type (pv++v::vs').toArray f.offset).run P w'=.ok v w':=fun w'=>mD (w:=w') hld (by rw[ho,←e2];simp)
                 have q:=rU (d:=d) hk hb1 hu hv;have ih:=qI fs l' xs ys (o+1) us' vs' (pu++[u]) (pv++[v]) b2 d hr hb2 hus hvs (by simp[e1]) (by simp[e2]) w';simp only[List.append_assoc,List.singleton_append]at ih;simp only[Op.eqFields,hn,ne_eq,not_false_eq_true,if_true,Sem.run_bind,p1,p2,q,Result.andThen_ok,Sem.run_ite];subst he;cases b1
                 · simp
                 · simp only[Bool.not_true,Bool.false_eq_true,if_false,Bool.true_and]
                   exact ih
   · simp at hf
theorem yD{e:TypeId}{c:Nat}(hk:pY P e=some c)(hi:(P.info? e).isSome=true){d:Nat}:∀(m i:Nat) (xs ys:List AV) (us vs pu pv:List Value) (b:Bool),
   gB (List.replicate m c) xs ys=some b→aS S w xs us→aS S w ys vs→pu.length=i→pv.length=i→∀w':World,
   ((forIn (m := Sem) (List.range' i m) ((none, ()) : Option Bool × Unit) (fun i _ => do
         if !(←Op.equalIn (d+1) e (←part e (pu++us).toArray (i*1)) (←part e (pv++vs).toArray (i*1)))then pure (ForInStep.done (some false,()))
         else pure (ForInStep.yield (none,())))).run P w').andThen (fun r w'=>Sem.run P (match r.1 with
       | some x=>pure x
       | none=>pure true:Sem Bool) w')=.ok b w'
 | 0,i,xs,ys,us,vs,pu,pv,b,he,_,_,_,_,w'=>by
   cases xs <;> cases ys <;> simp[gB]at he;subst he;simp
 | m+1,i,xs,ys,us,vs,pu,pv,b,he,hx,hy,e1,e2,w'=>by
   rw[List.replicate_succ]at he;cases xs with
   | nil=>simp[gB]at he
   | cons x xs=>
     cases ys with
     | nil=>simp[gB]at he
     | cons y ys=>
       simp only[gB]at he;cases hb1:uZ c x y with
       | none=>simp[hb1,Jn]at he
       | some b1=>
         cases hb2:gB (List.replicate m c) xs ys with
         | none=>simp[hb1,hb2,Jn]at he
         | some b2=>
           simp[hb1,hb2,Jn]at he;simp only[aS]at hx hy;obtain⟨u,us',rfl,hu,hus⟩:=hx;obtain⟨v,vs',rfl,hv,hvs⟩:=hy;have hld:=ND hk hi;have p1:∀w':World,(part e (pu++u::us').toArray (i*1)).run P w'=.ok u w':=fun w'=>mD (w:=w') hld (by rw[Nat.mul_one,←e1];simp)
           have p2:∀w':World,(part e (pv++v::vs').toArray (i*1)).run P w'=.ok v w':=fun w'=>mD (w:=w') hld (by rw[Nat.mul_one,←e2];simp)
           have q:=rU (d:=d) hk hb1 hu hv;have ih:=yD hk hi (d:=d) m (i+1) xs ys us' vs' (pu++[u]) (pv++[v]) b2 hb2 hus hvs (by simp[e1]) (by simp[e2]) w';simp only[List.append_assoc,List.singleton_append]at ih;simp only[List.range'_succ,List.forIn_cons,Sem.run_bind,p1,p2,q,Result.andThen_ok,Sem.run_ite,bind_assoc];subst he;cases b1
           · simp
           · simp only[Bool.not_true,Bool.false_eq_true,if_false,Bool.true_and,Sem.run_pure,Result.andThen_ok]
             exact ih
theorem zT{t:TypeId}{l:List Nat}(h:wG P t=some l){xs ys:List AV}{b:Bool}(he:gB l xs ys=some b){us vs:List Value}
   (hx:aS S w xs us) (hy:aS S w ys vs) (d:Nat) (w':World):(Op.equalIn (d+2) t (.agg us.toArray) (.agg vs.toArray)).run P w'=.ok b w':=by
 unfold wG at h;split at h
 · rename_i fs hu
   split at h
   · rename_i hc
     have hf:P.fieldsOf t=fs:=by unfold Program.fieldsOf;rw[hu]
     rw[run_equalIn_struct w' (d+1) t _ _ (by rw[hf];exact hu) hc.1,hf];simpa using qI fs.toList l xs ys 0 us vs [] [] b d h he hx hy rfl rfl w'
   · simp at h
 · rename_i n e hu
   split at h
   · rename_i hc
     cases hk:pY P e with
     | none=>simp[hk]at h
     | some c=>
       simp[hk]at h;subst h;cases hi:P.info? e with
       | none=>simp[hi]at hc
       | some i=>
         have hsz:i.size=1:=by simpa[hi]using hc.1
         have key:=yD (P:=P) (S:=S) (w:=w) hk (by simp[hi]) (d:=d) n 0 xs ys us vs [] [] b he hx hy rfl rfl w';simp only[List.nil_append]at key;rw[Op.equalIn];simp only[Sem.run_bind,run_underlying hu,Result.andThen_ok,sizeOf,typeInfo,run_program,hi,Sem.run_pure,hsz];rw[Std.Legacy.Range.forIn_eq_forIn_range'];simp only[Std.Legacy.Range.size,Nat.sub_zero,Nat.add_one_sub_one,Nat.div_one];have e:∀(r:Result (Option Bool×Unit)) (f g:Option Bool×Unit→World→Result Bool),(∀a w,f a w=g a w)→r.andThen f=r.andThen g:=fun r f g h=>by cases r <;> simp[Result.andThen,h]
         exact(e _ _ _ (fun a w=>by rcases a with⟨a,_⟩;cases a <;> rfl)).trans key
   · simp at h
 · simp at h
theorem iM(op:BinOp)(t:TypeId)(x y:Operand)(a b:Value)(h1:a≠.nilIface)(h2:∀cs,a≠.agg cs)(w':World):(eqGuard op t x y a b).run P w'=.ok () w':=by
 cases op <;> simp only[eqGuard] <;> (try rfl) <;> cases a <;> first|rfl|(exact absurd rfl h1)|(exact absurd rfl (h2 _))
theorem Ky{t:TypeId}{l:List Nat}(h:wG P t=some l):P.eqGuardType P.depth t=false:=by
 unfold wG at h;split at h
 · split at h
   · rename_i hc;exact hc.2
   · simp at h
 · split at h
   · rename_i hc;exact hc.2
   · simp at h
 · simp at h
theorem L9{op:BinOp}{t:TypeId}{x y:AV}(h:fP P G op t x y K):
   ∃z,K z∧(gt G→∀u v,rep S w x u→rep S w y v→∀ox oy,sI P S H w z (do eqGuard op t ox oy u v;binOp op t u v)):=by
 unfold fP at h;split at h
 · rename_i k a k' b
   split at h
   · rename_i hsh
     refine⟨_,h.2,fun hg u v hu hv ox oy=>?_⟩;have hb:=h.1 hg;simp only[rep]at hu hv;subst hu hv;refine gT kS fun w'=>?_
     simp only[Sem.run_bind,iM op t ox oy (.int k a) (.int k' b) (by simp) (by simp) w',Result.andThen_ok];have hb':¬b<0:=by omega
     cases op <;> simp only[sX,Bool.false_eq_true]at hsh <;> simp[binOp,Op.shift,hb',shV]
   split at h
   · rename_i hk
     subst hk;have base:∀(z:Value),(∀w',(binOp op t (.int k a) (.int k b)).run P w'=.ok z w')→∀u v,rep S w (.v (.int k a)) u→rep S w (.v (.int k b)) v→∀ox oy,sI P S H w (.v z) (do eqGuard op t ox oy u v;binOp op t u v):=by
       intro z hz u v hu hv ox oy;simp only[rep]at hu hv;subst hu hv;refine gT kS fun w'=>?_
       simp only[Sem.run_bind,iM op t ox oy (.int k a) (.int k b) (by simp) (by simp) w',Result.andThen_ok,hz]
     cases op <;> simp only at h <;> first
       | exact h.elim
       | (refine ⟨_, h, fun _ => base _ (fun w' => ?_)⟩
          first
            | (simp[binOp,Op.intArith,Op.intCmp];done)
            | (simp[binOp];rfl))
       | exact⟨_,h.2,fun hg=>base _ (fun w'=>by simp[binOp,Op.intDiv,h.1 hg])⟩
   · exact h.elim
 · rename_i a b
   have base:∀(z:Value),(∀w',(binOp op t (.string a) (.string b)).run P w'=.ok z w')→∀u v,rep S w (.v (.string a)) u→rep S w (.v (.string b)) v→∀ox oy,sI P S H w (.v z) (do eqGuard op t ox oy u v;binOp op t u v):=by
     intro z hz u v hu hv ox oy;simp only[rep]at hu hv;subst hu hv;refine gT kS fun w'=>?_
     simp only[Sem.run_bind,iM op t ox oy (.string a) (.string b) (by simp) (by simp) w',Result.andThen_ok,hz]
   cases op <;> simp only at h <;> first
     | exact h.elim
     | exact⟨_,h,fun _=>base _ (fun w'=>by simp[binOp,Op.stringOp])⟩
     | exact ⟨_, h.2, fun hg => base _ (fun w' => by
         have:=h.1 hg;have h2:¬((a.size+b.size:Nat):Int)>IntKind.i64.max:=by omega
         simp only[binOp,Op.stringOp];rw[if_neg h2];rfl)⟩
 · rename_i a b
   split at h
   · rename_i hb
     have hu':=L4 hb;cases op <;> simp only at h <;> first
       | exact h.elim
       | (refine ⟨_, h, fun _ u v hu hv ox oy => ?_⟩
          simp only[rep]at hu hv;subst hu hv;refine gT kS fun w'=>?_
          simp only[Sem.run_bind,iM _ t ox oy (.bool a) (.bool b) (by simp) (by simp) w',Result.andThen_ok];simp[binOp,run_equal_bool w' t a b hu'])
   · exact h.elim
 · rename_i xs ys
   split at h
   · rename_i l hl
     split at h
     · rename_i b hb
       cases op <;> simp only at h <;> first
         | exact h.elim
         | (refine ⟨_, h, fun _ u v hu hv ox oy => ?_⟩
            simp only[rep]at hu hv;obtain⟨us,rfl,hus,_⟩:=hu;obtain⟨vs,rfl,hvs,_⟩:=hv;refine gT kS fun w'=>?_
            have q:=zT hl hb hus hvs 9998 w';simp only[Sem.run_bind,run_eqGuard_agg _ _ _ _ _ _ _ (Ky hl),Result.andThen_ok]
            first
              | (rw[run_eql_struct,q];rfl)
              | (rw[run_neq_struct,q];rfl))
     · exact h.elim
   · exact h.elim
 · exact⟨_,h.2,fun hg=>(h.1 hg).elim⟩
end
end Go.Aw
end
