import Derived.ArgAppend
import Derived.Deep.LoopGhost
import Derived.Test.YtdlijlecpopadaaGreatDoorZu02
set_option linter.unusedSimpArgs false
set_option linter.unusedVariables false
set_option maxRecDepth 100000
section
namespace Go.Aw
open Go.RowKit
def sT(w:World)(g:Nat):Option (Array Value):=match w.heap[g]? with
 | some (.cells cs _ _)=>some cs
 | _=>none
def J6(S:Sg)(w:World):Prop:=∀t∈Vy,S.ro t.1/\sT w t.1=some t.2
theorem J6.keep{S S':Sg}{w w':World}(h:J6 S w)(E:S.le S')(I:fR S w w'):J6 S' w':=fun t F=>
 ⟨E.ro _ (h t F).1,by unfold sT;rw[I t.1 (h t F).1];exact(h t F).2⟩
structure St(S:Sg)(w:World)(H:aJ):Prop where
 ro_fz:∀k,S.ro k->S.fz k
 fz_lt:∀k,S.fz k->k<w.heap.size
 rows:xZ S w H
 free:∀k r,H k=some r->∀g,blk (S.loc k)=some g->¬S.fz g
 disj:∀k k' r r',H k=some r->H k'=some r'->k≠k'->∀g,blk (S.loc k)=some g->blk (S.loc k')≠some g
 tabs:J6 S w
structure Grow(S:Sg)(w:World)(S':Sg)(w':World):Prop where
 le:S.le S'
 fz:∀k,S.fz k->S'.fz k
 os:w'.os=w.os
 tape:w'.tape=w.tape
 output:w'.output=w.output
 size:w.heap.size<=w'.heap.size
 same:∀k,S.fz k->w'.heap[k]?=w.heap[k]?
 newro:∀k,S'.ro k->S.ro k\/¬S.fz k
theorem Grow.refl(S:Sg)(w:World):Grow S w S w:=⟨S.le_refl,fun _ h=>h,rfl,rfl,rfl,Nat.le_refl _,fun _ _=>rfl,fun _ h=>.inl h⟩
theorem Grow.trans{S S' J:Sg}{w w' I:World}(h:Grow S w S' w')(E:Grow S' w' J I):Grow S w J I:=
 ⟨Sg.le_trans h.le E.le,fun k F=>E.fz k (h.fz k F),E.os.trans h.os,E.tape.trans h.tape,E.output.trans h.output,Nat.le_trans h.size E.size,
   fun k F=>(E.same k (h.fz k F)).trans (h.same k F),
   fun k F=>by rcases E.newro k F with h1|h1;exact h.newro k h1;exact .inr fun O=>h1 (h.fz k O)⟩
def fM(N:Nat)(H H':aJ):Prop:=∀k,k<N->H k=none->H' k=none
theorem fM.refl(N:Nat)(H:aJ):fM N H H:=fun _ _ h=>h
theorem fM.trans{N F:Nat}{H H' E:aJ}(h:fM N H H')(O:fM F H' E)(J:N<=F):fM N H E:=fun k I h0=>O k (Nat.lt_of_lt_of_le I J) (h k I h0)
section
variable{S S':Sg}{w w':World}{H H':aJ}
theorem St.kept(I:St S w H)(E:∀k,S.fz k->w'.heap[k]?=w.heap[k]?):fR S w w':=fun k F=>E k (I.ro_fz k F)
theorem Grow.kept(F:St S w H)(E:Grow S w S' w'):fR S w w':=F.kept E.same
theorem St.fresh(E:St S w H):H S.N=none:=by
 cases h:H S.N with
 | none=>rfl
 | some r=>exact absurd (E.rows _ r h).lt (Nat.lt_irrefl _)
theorem RowOK.block_lt{k:Nat}{r:Row}(h:RowOK S w k r){g:Nat}(E:blk (S.loc k)=some g):g<w.heap.size:=by
 rcases h.own with⟨xs,F,_⟩|⟨J,O,h1,I,_⟩
 . refine(F.lt g ?_).2
   rcases F.2 with⟨hv,_⟩|⟨_,_,_,hv,_⟩ <;> (rw[hv]at E |-;exact E)
 . rw[h1]at E
   injection E with E;subst E;exact(Array.getElem?_eq_some_iff.1 I).1
theorem Dh(E:S.le S')(F:fR S w w'):∀(i:Nat) (es:List (List AV)) (ms:List MapEntry),lG S w i es ms->lG S' w' i es ms
 | _,[],_,h=>h
 | i,cs::r,ms,h=>by
   simp only[lG]at h |-;obtain⟨m,t,rfl,h1,J,I⟩:=h;exact⟨m,t,rfl,h1,dQ E F _ _ J,Dh E F (i+1) r t I⟩
theorem RowOK.keep{k:Nat}{r:Row}(h:RowOK S w k r)(E:S.le S')(O:fR S w w')(Y:∀g,blk (S.loc k)=some g->w'.heap[g]?=w.heap[g]?):RowOK S' w' k r:=by
 refine⟨Nat.lt_of_lt_of_le h.lt E.N,by rw[E.sz k h.lt];exact h.sz,h.pos,h.len,?_⟩;rcases h.own with⟨xs,X,hr,h1⟩|⟨g,ms,h1,I,F⟩
 . refine .inl ?_
   unfold Ks;rw[E.loc k h.lt];refine⟨xs,⟨X.1,?_⟩,dQ E O _ _ hr,h1⟩;rcases X.2 with I|⟨g,cap,cur,J,F,Z,h5⟩
   . exact .inl I
   . exact .inr ⟨g,cap,cur,J,F,by rw[Y g (by rw[J];rfl)];exact Z,h5⟩
 . refine .inr ⟨g,ms,?_,?_,Dh E O 0 _ _ F.1,F.2⟩
   . rw[E.loc k h.lt];exact h1
   . rw[Y g (by rw[h1];rfl)];exact I
theorem FR.keep{ρ:Env}{a:Act}(h:FR S w ρ a)(E:S.le S')(F:fR S w w'):FR S' w' ρ a:=fun t I=>lD E F _ _ (h t I)
theorem FR.put{ρ:Env}{a:Act}(h:FR S w ρ a){d:Option Nat}{z:AV}{v:Value}(I:rep S w z v):FR S w (upd ρ d z) (a.put d v):=by
 intro t F;cases d with
 | none=>exact h t F
 | some d=>
   simp only[Act.put,upd]at F |-;have E:t<a.tmps.size:=by simpa using F
   by_cases e:t=d
   . subst e
     simpa[Array.getD,E]using I
   . have h1:=h t E
     have J:d≠t:=fun h=>e h.symm
     simp only[if_neg e];have:(a.tmps.setIfInBounds d v).getD t undef=a.tmps.getD t undef:=by
       simp[Array.getD_eq_getD_getElem?,Array.getElem?_setIfInBounds,J]
     rw[this];exact h1
def Sg.addRow(S:Sg)(v:Value)(sz:Nat):Sg:={ S with loc:=fun k=>if k=S.N then v else S.loc k,sz:=fun k=>if k=S.N then sz else S.sz k,N:=S.N+1 }
theorem Sg.le_addRow(S:Sg)(v:Value)(sz:Nat):S.le (S.addRow v sz):=
 ⟨fun _ h=>h,Nat.le_succ _,fun k E=>by simp[Sg.addRow,Nat.ne_of_lt E],fun k E=>by simp[Sg.addRow,Nat.ne_of_lt E]⟩
theorem nZ{k:Nat}{r:Option Row}:aI H k r k=r:=aA H k r
theorem St.newRow(O:St S w H){e:TypeId}{sz cap:Nat}{es:List (List AV)}{xs:List Value}{cur:Array Value}(ai:0<sz)(ad:∀cs∈es,cs.length=sz)
   (hr:bC S w es.flatten xs) (h1:∀u∈xs,u.oneCell'=true) (hn:es.length<=cap) (am:cap<=maxLen) (aj:cur.size=cap*sz) (af:cur.toList.take (es.length*sz)=xs) {w':World}
   (hw:w'.heap=w.heap.push (.cells cur e)) (an:w'.os=w.os) (ae:w'.tape=w.tape) (al:w'.output=w.output):
   St (S.addRow (.slice (some ⟨w.heap.size,0,none⟩) es.length cap) sz) w' (aI H S.N (some ⟨e,sz,es⟩))/\Grow S w (S.addRow (.slice (some ⟨w.heap.size,0,none⟩) es.length cap) sz) w':=by
 have Y:∀k,k<w.heap.size->w'.heap[k]?=w.heap[k]?:=fun k F=>by rw[hw,Array.getElem?_push,if_neg (by omega)]
 have ak:w'.heap[w.heap.size]?=some (.cells cur e (0,0)):=by rw[hw];simp
 have ao:w'.heap.size=w.heap.size+1:=by rw[hw];simp
 have ac:=S.le_addRow (.slice (some ⟨w.heap.size,0,none⟩) es.length cap) sz;have Z:fR S w w':=fun k F=>Y k (O.fz_lt k (O.ro_fz k F))
 have E:(S.addRow (.slice (some ⟨w.heap.size,0,none⟩) es.length cap) sz).loc S.N=.slice (some ⟨w.heap.size,0,none⟩) es.length cap:=by simp[Sg.addRow]
 have aa:∀k,k<S.N->(S.addRow (.slice (some ⟨w.heap.size,0,none⟩) es.length cap) sz).loc k=S.loc k:=ac.loc;have J:∀k r,k≠S.N->aI H S.N (some ⟨e,sz,es⟩) k=some r->H k=some r:=fun k r F h=>by rwa [aD _ _ _ _ F]at h
 refine⟨⟨O.ro_fz,fun k F=>by have:=O.fz_lt k F;omega,?_,?_,?_,O.tabs.keep ac Z⟩,⟨ac,fun _ h=>h,an,ae,al,by omega,fun k F=>Y k (O.fz_lt k F),fun _ h=>.inl h⟩⟩
 . intro k r F
   by_cases e0:k=S.N
   . subst e0
     rw[nZ]at F;injection F with F;subst F;refine⟨Nat.lt_succ_self _,by simp[Sg.addRow],ai,ad,.inl ⟨xs,⟨?_,.inr ⟨w.heap.size,cap,cur,E,Nat.zero_le _,ak,hn,am,aj,af⟩⟩,dQ ac Z _ _ hr,h1⟩⟩;rw[iD _ _ hr,oO es ad]
   . have I:=J k r e0 F
     exact(O.rows k r I).keep ac Z fun g hg=>Y g ((O.rows k r I).block_lt hg)
 . intro k r F g hg
   by_cases e0:k=S.N
   . subst e0
     rw[E]at hg;simp only[blk,Option.some.injEq]at hg;subst hg;exact fun h=>Nat.lt_irrefl _ (O.fz_lt _ h)
   . have I:=J k r e0 F
     rw[aa k (O.rows k r I).lt]at hg;exact O.free k r I g hg
 . intro k k' r r' F I ag g hg X
   by_cases e0:k=S.N
   . subst e0
     rw[E]at hg;simp only[blk,Option.some.injEq]at hg;subst hg;have ab:=J k' r' (Ne.symm ag) I;rw[aa k' (O.rows k' r' ab).lt]at X;exact Nat.lt_irrefl _ ((O.rows k' r' ab).block_lt X)
   . have ab:=J k r e0 F
     rw[aa k (O.rows k r ab).lt]at hg;by_cases e1:k'=S.N
     . subst e1
       rw[E]at X;simp only[blk,Option.some.injEq]at X;subst X;exact Nat.lt_irrefl _ ((O.rows k r ab).block_lt hg)
     . have ah:=J k' r' e1 I
       rw[aa k' (O.rows k' r' ah).lt]at X;exact O.disj k k' r r' ab ah ag g hg X
theorem St.newMap(O:St S w H){w':World}(hw:w'.heap=w.heap.push (.map #[] 0))(ah:w'.os=w.os)(ac:w'.tape=w.tape)(af:w'.output=w.output):
   St (S.addRow (.map (some w.heap.size)) 2) w' (aI H S.N (some ⟨0,2,[]⟩))/\Grow S w (S.addRow (.map (some w.heap.size)) 2) w':=by
 have Z:∀k,k<w.heap.size->w'.heap[k]?=w.heap[k]?:=fun k F=>by rw[hw,Array.getElem?_push,if_neg (by omega)]
 have ad:w'.heap[w.heap.size]?=some (.map #[] 0):=by rw[hw];simp
 have ai:w'.heap.size=w.heap.size+1:=by rw[hw];simp
 have Y:=S.le_addRow (.map (some w.heap.size)) 2;have ab:fR S w w':=fun k F=>Z k (O.fz_lt k (O.ro_fz k F))
 have E:(S.addRow (.map (some w.heap.size)) 2).loc S.N=.map (some w.heap.size):=by simp[Sg.addRow]
 have I:∀k r,k≠S.N->aI H S.N (some ⟨0,2,[]⟩) k=some r->H k=some r:=fun k r F h=>by rwa [aD _ _ _ _ F]at h
 refine⟨⟨O.ro_fz,fun k F=>by have:=O.fz_lt k F;omega,?_,?_,?_,O.tabs.keep Y ab⟩,⟨Y,fun _ h=>h,ah,ac,af,by omega,fun k F=>Z k (O.fz_lt k F),fun _ h=>.inl h⟩⟩
 . intro k r F
   by_cases e0:k=S.N
   . subst e0
     rw[nZ]at F;injection F with F;subst F;exact⟨Nat.lt_succ_self _,by simp[Sg.addRow],by simp,by simp,.inr ⟨w.heap.size,[],E,ad,by simp[lG],rfl⟩⟩
   . have J:=I k r e0 F
     exact(O.rows k r J).keep Y ab fun g hg=>Z g ((O.rows k r J).block_lt hg)
 . intro k r F g hg
   by_cases e0:k=S.N
   . subst e0
     rw[E]at hg;simp only[blk,Option.some.injEq]at hg;subst hg;exact fun h=>Nat.lt_irrefl _ (O.fz_lt _ h)
   . have J:=I k r e0 F
     rw[Y.loc k (O.rows k r J).lt]at hg;exact O.free k r J g hg
 . intro k k' r r' F J ae g hg X
   by_cases e0:k=S.N
   . subst e0
     rw[E]at hg;simp only[blk,Option.some.injEq]at hg;subst hg;have aa:=I k' r' (Ne.symm ae) J;rw[Y.loc k' (O.rows k' r' aa).lt]at X;exact Nat.lt_irrefl _ ((O.rows k' r' aa).block_lt X)
   . have aa:=I k r e0 F
     rw[Y.loc k (O.rows k r aa).lt]at hg;by_cases e1:k'=S.N
     . subst e1
       rw[E]at X;simp only[blk,Option.some.injEq]at X;subst X;exact Nat.lt_irrefl _ ((O.rows k r aa).block_lt hg)
     . have ag:=I k' r' e1 J
       rw[Y.loc k' (O.rows k' r' ag).lt]at X;exact O.disj k k' r r' aa ag ae g hg X
theorem St.setMap(Y:St S w H){k g:Nat}{r:Row}(hk:H k=some r)(hl:S.loc k=.map (some g)){F:List MapEntry}{es:List (List AV)}(he:lG S w 0 es F)(h2:r.sz=2)(ai:g<w.heap.size):
   St S { w with heap:=w.heap.setIfInBounds g (.map F.toArray F.length) } (aI H k (some { r with es:=es }))/\Grow S w S { w with heap:=w.heap.setIfInBounds g (.map F.toArray F.length) }:=by
 have hR:=Y.rows k r hk;have ab:¬S.fz g:=Y.free k r hk g (by rw[hl];rfl);have I:∀j,j≠g->(w.heap.setIfInBounds g (.map F.toArray F.length))[j]?=w.heap[j]?:=fun j E=>by rw[Array.getElem?_setIfInBounds,if_neg (Ne.symm E)]
 have ae:(w.heap.setIfInBounds g (.map F.toArray F.length))[g]?=some (.map F.toArray F.length):=by rw[Array.getElem?_setIfInBounds];simp[ai]
 have J:fR S w { w with heap:=w.heap.setIfInBounds g (.map F.toArray F.length) }:=fun j E=>I j (fun e=>ab (e▸Y.ro_fz j E))
 have p:∀j r',aI H k (some { r with es:=es }) j=some r'->∃aa,H j=some aa:=fun j r' E=>by
   by_cases e:j=k
   . subst e;exact⟨r,hk⟩
   . rw[aD _ _ _ _ e]at E;exact⟨_,E⟩
 have ac:∀(i:Nat) (es:List (List AV)) (F:List MapEntry),lG S w i es F->∀cs∈es,cs.length=2:=by
   intro i es;induction es generalizing i with
   | nil=>simp
   | cons c es ih=>
     intro F h cs X;simp only[lG]at h;obtain⟨m,t,rfl,_,h4,h5⟩:=h;rcases List.mem_cons.1 X with rfl|X
     . have:=iD _ _ h4;simpa using this.symm
     . exact ih (i+1) t h5 cs X
 refine⟨⟨Y.ro_fz,fun j E=>by simpa using Y.fz_lt j E,?_,?_,?_,Y.tabs.keep S.le_refl J⟩,⟨S.le_refl,fun _ h=>h,rfl,rfl,rfl,by simp,fun j E=>I j (fun e=>ab (e▸E)),fun _ h=>.inl h⟩⟩
 . intro j r' E
   by_cases e:j=k
   . subst e
     rw[nZ]at E;injection E with E;subst E;exact⟨hR.lt,hR.sz,hR.pos,fun cs X=>(ac 0 es F he cs X).trans h2.symm,.inr ⟨g,F,hl,ae,Dh S.le_refl J 0 _ _ he,h2⟩⟩
   . rw[aD _ _ _ _ e]at E
     exact(Y.rows j r' E).keep S.le_refl J fun g' O=>I g' (fun e'=>Y.disj j k r' r E hk e g' O (by rw[hl,e'];rfl))
 . intro j r' E g' O
   obtain⟨aa,Z⟩:=p j r' E;exact Y.free j aa Z g' O
 . intro j j' r1 r2 E Z ad g' O ag
   obtain⟨q1,af⟩:=p j r1 E;obtain⟨q2,ah⟩:=p j' r2 Z;exact Y.disj j j' q1 q2 af ah ad g' O ag
theorem St.nilRow(Y:St S w H)(e:TypeId){sz:Nat}(ac:0<sz):
   St (S.addRow (.slice none 0 0) sz) w (aI H S.N (some ⟨e,sz,[]⟩))/\Grow S w (S.addRow (.slice none 0 0) sz) w:=by
 have J:=S.le_addRow (.slice none 0 0) sz;have E:(S.addRow (.slice none 0 0) sz).loc S.N=.slice none 0 0:=by simp[Sg.addRow]
 have F:∀k r,k≠S.N->aI H S.N (some ⟨e,sz,[]⟩) k=some r->H k=some r:=fun k r O h=>by rwa [aD _ _ _ _ O]at h
 refine⟨⟨Y.ro_fz,Y.fz_lt,?_,?_,?_,Y.tabs.keep J (fR.refl S w)⟩,⟨J,fun _ h=>h,rfl,rfl,rfl,Nat.le_refl _,fun _ _=>rfl,fun _ h=>.inl h⟩⟩
 . intro k r O
   by_cases e0:k=S.N
   . subst e0
     rw[nZ]at O;injection O with O;subst O;refine⟨Nat.lt_succ_self _,by simp[Sg.addRow],ac,by simp,.inl ⟨[],⟨by simp,.inl ⟨E,rfl⟩⟩,by simp[bC],by simp⟩⟩
   . have I:=F k r e0 O
     exact(Y.rows k r I).keep J (fR.refl S w) fun _ _=>rfl
 . intro k r O g Z
   by_cases e0:k=S.N
   . subst e0
     rw[E]at Z;simp[blk]at Z
   . have I:=F k r e0 O
     rw[J.loc k (Y.rows k r I).lt]at Z;exact Y.free k r I g Z
 . intro k k' r r' O I ad g Z X
   by_cases e0:k=S.N
   . subst e0
     rw[E]at Z;simp[blk]at Z
   . have aa:=F k r e0 O
     rw[J.loc k (Y.rows k r aa).lt]at Z;by_cases e1:k'=S.N
     . subst e1
       rw[E]at X;simp[blk]at X
     . have ab:=F k' r' e1 I
       rw[J.loc k' (Y.rows k' r' ab).lt]at X;exact Y.disj k k' r r' aa ab ad g Z X
def Sg.addRo(S:Sg)(g:Nat):Sg:={ S with ro:=fun k=>S.ro k\/k=g,fz:=fun k=>S.fz k\/k=g }
theorem Sg.le_addRo(S:Sg)(g:Nat):S.le (S.addRo g):=⟨fun _ h=>.inl h,Nat.le_refl _,fun _ _=>rfl,fun _ _=>rfl⟩
theorem St.newRo(I:St S w H){o:Obj}{w':World}(hw:w'.heap=w.heap.push o)(aa:w'.os=w.os)(O:w'.tape=w.tape)(Z:w'.output=w.output):
   St (S.addRo w.heap.size) w' H/\Grow S w (S.addRo w.heap.size) w':=by
 have F:∀k,k<w.heap.size->w'.heap[k]?=w.heap[k]?:=fun k E=>by rw[hw,Array.getElem?_push,if_neg (by omega)]
 have ab:w'.heap.size=w.heap.size+1:=by rw[hw];simp
 have X:=S.le_addRo w.heap.size;have J:fR S w w':=fun k E=>F k (I.fz_lt k (I.ro_fz k E))
 refine⟨⟨fun k E=>E.imp (I.ro_fz k) id,fun k E=>?_,fun k r E=>(I.rows k r E).keep X J fun g hg=>F g ((I.rows k r E).block_lt hg),fun k r E g hg Y=>?_,I.disj,I.tabs.keep X J⟩,
   ⟨X,fun _ h=>.inl h,aa,O,Z,by omega,fun k E=>F k (I.fz_lt k E),fun k E=>E.imp id (fun e Y=>by have:=I.fz_lt k Y;omega)⟩⟩
 . rcases E with E|E
   . have:=I.fz_lt k E;omega
   . omega
 . rcases Y with Y|Y
   . exact I.free k r E g hg Y
   . have:=(I.rows k r E).block_lt hg;omega
theorem RowOK.open{k:Nat}{r:Row}(h:RowOK S w k r){I:Option Addr}{n0 O:Nat}(E:S.loc k=.slice I n0 O)(F:r.es≠[]):∃g cap cur,S.loc k=.slice (some ⟨g,0,none⟩) r.es.length cap/\w.heap[g]?=some (.cells cur r.e (0,0))/\r.es.length<=cap/\cap<=maxLen/\cur.size=cap*r.sz /\
   bC S w r.es.flatten (cur.toList.take (r.es.length*r.sz))/\∀u∈cur.toList.take (r.es.length*r.sz),u.oneCell'=true:=by
 obtain⟨xs,ho,hr,h1⟩:=h.sl E;rcases ho.2 with⟨_,X⟩|⟨g,cap,cur,J,_,Y,h3,h4,h5,Z⟩
 . exact absurd (List.eq_nil_of_length_eq_zero X) F
 . subst Z
   exact⟨g,cap,cur,J,Y,h3,h4,h5,hr,h1⟩
theorem zV:∀(es:List (List AV)) (i:Nat) (cs:List AV) {sz:Nat},(∀c∈es,c.length=sz)->i<es.length->cs.length=sz ->
   (es.set i cs).flatten=es.flatten.take (i*sz)++cs++es.flatten.drop (i*sz+sz)
 | [],_,_,_,_,h,_=>by simp at h
 | x::r,0,cs,sz,hl,_,E=>by
   have F:=hl x (by simp);simp[<-F]
 | x::r,i+1,cs,sz,hl,hi,E=>by
   have F:=hl x (by simp);have ih:=zV r i cs (fun c E=>hl c (by simp[E])) (by simpa using hi) E;simp only[List.set_cons_succ,List.flatten_cons,ih];have I:(i+1)*sz=x.length+i*sz:=by rw[F,Nat.add_mul];omega
   rw[I,Nat.add_assoc,List.take_append,List.drop_append];simp[List.take_of_length_le,List.drop_eq_nil_of_le,Nat.add_assoc]
theorem St.store(O:St S w H){k:Nat}{r:Row}(hk:H k=some r){i f:Nat}{cs:List AV}{l:List Value}(hi:i<r.es.length)(hf:f+cs.length<=r.sz){ar:Option Addr}{n0 c0:Nat}(al:S.loc k=.slice ar n0 c0)
   (hr:bC S w cs l) (h1:∀u∈l,u.oneCell'=true):
   ∃g n c w',S.loc k=.slice (some ⟨g,0,none⟩) n c/\(∀P:Program,(storeCells ⟨g,i*r.sz+f,none⟩ l).run P w=.ok () w') /\
     St S w' (aI H k (some { r with es:=r.es.set i (mH (r.es.getD i []) f cs) }))/\Grow S w S w':=by
 have Y:=O.rows k r hk;have am:r.es≠[]:=fun e=>by rw[e]at hi;simp at hi
 obtain⟨g,cap,cur,I,hg,af,aw,aq,ai,ac⟩:=Y.open al am;have ad:=iD _ _ hr;have ae:(i+1)*r.sz<=r.es.length*r.sz:=Nat.mul_le_mul_right _ hi;have ao:r.es.length*r.sz<=cap*r.sz:=Nat.mul_le_mul_right _ af;rw[Nat.add_mul,Nat.one_mul]at ae;have aj:∀P:Program,_:=fun P=>run_storeCells_at (P:=P) g (i*r.sz+f) r.e l 0 cur w hg (by rw[ad,aq];omega) h1
 simp only[Nat.add_zero]at aj;refine⟨g,_,cap,_,I,aj,?_,?_⟩
 . have X:∀j,j≠g->(w.setRow g (List.take (i*r.sz+f) cur.toList++l++List.drop (i*r.sz+f+l.length) cur.toList).toArray).heap[j]?=w.heap[j]?:=fun j E=>setRow_other w g j _ E
   have ap:¬S.fz g:=O.free k r hk g (by rw[I];rfl);have F:fR S w (w.setRow g (List.take (i*r.sz+f) cur.toList++l++List.drop (i*r.sz+f+l.length) cur.toList).toArray):=fun j E=>X j (fun e=>ap (e▸O.ro_fz j E))
   have aa:(r.es.getD i []).length=r.sz:=by
     simp only[List.getD,List.getElem?_eq_getElem hi,Option.getD_some];exact Y.len _ (List.getElem_mem hi)
   have ab:(mH (r.es.getD i []) f cs).length=r.sz:=by
     simp only[mH,List.length_append,List.length_take,List.length_drop,aa];omega
   have e2 : List.take (r.es.length * r.sz) (List.take (i * r.sz + f) cur.toList ++ l ++ List.drop (i * r.sz + f + l.length) cur.toList) =
       (cur.toList.take (r.es.length*r.sz)).take (i*r.sz+f)++l++(cur.toList.take (r.es.length*r.sz)).drop (i*r.sz+f+l.length):=by
     rw[List.take_take,Nat.min_eq_left (by omega),List.drop_take];rw[List.take_append,List.take_append];simp only[List.length_append,List.length_take,Array.length_toList];rw[Nat.min_eq_left (by omega:i*r.sz+f<=cur.size)];rw[List.take_of_length_le (l:=List.take (i*r.sz+f) cur.toList) (by simp;omega),List.take_of_length_le (l:=l) (by omega)]
   refine⟨O.ro_fz,fun j E=>by simpa using O.fz_lt j E,?_,?_,?_,O.tabs.keep S.le_refl F⟩
   . intro j r' E
     by_cases e:j=k
     . subst e
       rw[nZ]at E;injection E with E;subst E;refine⟨Y.lt,Y.sz,Y.pos,?_,.inl ?_⟩
       . intro c hc
         rcases List.mem_or_eq_of_mem_set hc with hc|rfl
         . exact Y.len c hc
         . exact ab
       . refine⟨(List.take (i*r.sz+f) cur.toList++l++List.drop (i*r.sz+f+l.length) cur.toList).take (r.es.length*r.sz),⟨?_,.inr ⟨g,cap,_,by simpa using I,Nat.zero_le _,setRow_heap w g cur _ _ _ hg,by simpa using af,aw,?_,by simp⟩⟩,?_,?_⟩
         . simp only[List.length_set,List.length_take,List.length_append,List.length_drop,Array.length_toList]
           omega
         . simp only[List.size_toArray,List.length_append,List.length_take,List.length_drop,Array.length_toList]
           omega
         . have hx:=(dQ (S.le_refl) F _ _ ai)
           have hy:=(dQ (S.le_refl) F _ _ hr);have e1:(r.es.set i (mH (r.es.getD i []) f cs)).flatten=r.es.flatten.take (i*r.sz+f)++cs++r.es.flatten.drop (i*r.sz+f+l.length):=by
             rw[zV r.es i _ Y.len hi ab];have au:r.es.flatten.length=r.es.length*r.sz:=oO _ Y.len;have ag:r.es.getD i []=(r.es.flatten.drop (i*r.sz)).take r.sz:=by
               have h0:=zV r.es i (r.es.getD i []) Y.len hi aa;have hs:r.es.set i (r.es.getD i [])=r.es:=by
                 simp only[List.getD,List.getElem?_eq_getElem hi,Option.getD_some];exact List.set_getElem_self hi
               rw[hs]at h0;have h3:(r.es.flatten.drop (i*r.sz)).take r.sz=((r.es.flatten.take (i*r.sz)++r.es.getD i []++r.es.flatten.drop (i*r.sz+r.sz)).drop (i*r.sz)).take r.sz:=by rw[<-h0]
               rw[h3,List.append_assoc,List.drop_append_of_le_length (by rw[List.length_take];omega)];rw[List.drop_eq_nil_of_le (by rw[List.length_take];omega),List.nil_append,List.take_append_of_le_length (by omega),List.take_of_length_le (by omega)]
             rw[ag,mH];have a1:List.take (i*r.sz+f) r.es.flatten=r.es.flatten.take (i*r.sz)++((r.es.flatten.drop (i*r.sz)).take r.sz).take f:=by
               rw[List.take_take,Nat.min_eq_left (by omega),List.take_add]
             have a2:r.es.flatten.drop (i*r.sz+f+l.length)=((r.es.flatten.drop (i*r.sz)).take r.sz).drop (f+cs.length)++r.es.flatten.drop (i*r.sz+r.sz):=by
               rw[List.drop_take,List.drop_drop,<-ad,<-Nat.add_assoc];have:List.drop (i*r.sz+r.sz) r.es.flatten=(List.drop (i*r.sz+f+l.length) r.es.flatten).drop (r.sz-(f+l.length)):=by
                 rw[List.drop_drop];congr 1;omega
               rw[this,List.take_append_drop]
             rw[a1,a2];simp only[List.append_assoc]
           rw[e1];rw[e2];exact dJ _ _ _ _ (dJ _ _ _ _ (sC _ _ _ hx) hy) (vO _ _ _ hx)
         . intro u Z
           rw[e2]at Z;simp only[List.mem_append]at Z;rcases Z with(Z|Z)|Z
           . exact ac u (List.mem_of_mem_take Z)
           . exact h1 u Z
           . exact ac u (List.mem_of_mem_drop Z)
     . rw[aD _ _ _ _ e]at E
       exact(O.rows j r' E).keep S.le_refl F fun g' J=>X g' (fun e'=>O.disj j k r' r E hk e g' J (by rw[I,e'];rfl))
   . intro j r' E g' J
     by_cases e:j=k
     . subst e;exact O.free j r hk g' J
     . rw[aD _ _ _ _ e]at E;exact O.free j r' E g' J
   . intro j j' r1 r2 E ax ah g' J an
     have p:∀j r',aI H k (some { r with es:=r.es.set i (mH (r.es.getD i []) f cs) }) j=some r'->∃ay,H j=some ay:=fun j r' E=>by
       by_cases e:j=k
       . subst e;exact⟨r,hk⟩
       . rw[aD _ _ _ _ e]at E;exact⟨_,E⟩
     obtain⟨q1,ak⟩:=p j r1 E;obtain⟨q2,av⟩:=p j' r2 ax;exact O.disj j j' q1 q2 ak av ah g' J an
 . refine⟨S.le_refl,fun _ h=>h,rfl,rfl,rfl,by simp,fun j E=>setRow_other w g j _ (fun e=>O.free k r hk g (by rw[I];rfl) (e▸E)),fun _ h=>.inl h⟩
end
end Go.Aw
end
section
namespace Go.Aw
open Go.RowKit
section
variable{P:Program}{S S':Sg}{w w':World}{H H':aJ}
def yC(S:Sg)(w:World)(u:Value)(news:List (List AV)):Prop:=
 ∃ad c l,u=.slice ad news.length c/\bC S w news.flatten l/\(∀x∈l,x.oneCell'=true) /\
   (news=[]\/∃b o,ad=some ⟨b,o,none⟩/\∀j x,l[j]?=some x->w.cell? ⟨b,o+j,none⟩=some x)
theorem KX{es:List (List AV)}{u:Value}(h:rep S w (.sl es) u):yC S w u es:=by
 simp only[rep]at h;obtain⟨I,n,c,rfl,rfl,_,_,O⟩:=h;rcases O with rfl|⟨b,o,sz,rfl,hb,Y,E⟩
 . exact⟨I,c,[],rfl,by simp[bC],by simp,.inl rfl⟩
 . obtain⟨l,Z,J,F,X⟩:=mM _ _ (vX es o E)
   exact⟨_,c,l,rfl,J,F,.inr ⟨b,o,rfl,X⟩⟩
theorem KD{k:Nat}{r:Row}(h:RowOK S w k r){a0:Option Addr}{n0 X:Nat}(O:S.loc k=.slice a0 n0 X):yC S w (S.loc k) r.es:=by
 obtain⟨xs,I,J,h1⟩:=h.sl O;rcases I.2 with⟨E,F⟩|⟨g,cap,cur,E,_⟩
 . have Z:=List.eq_nil_of_length_eq_zero F
   have hx:xs=[]:=List.eq_nil_of_length_eq_zero (by rw[I.1,F];simp);exact⟨none,0,xs,by rw[E,F],J,h1,.inl Z⟩
 . refine⟨some ⟨g,0,none⟩,cap,xs,E,J,h1,.inr ⟨g,0,rfl,fun j x Y=>?_⟩⟩
   have:=I.cells (g:=g) (by rw[E];rfl) j x Y
   rwa [Addr.add_lit]at this
theorem Db{k a b:Nat}{r:Row}{u:Value}(hk:RowOK S w k r)(hu:rep S w (.oz k a b) u):yC S w u ((r.es.take b).drop a)/\b<=r.es.length/\a<=b:=by
 simp only[rep]at hu;obtain⟨_,ad,n,c,ab,cc,E,rfl,ae,I,O,_⟩:=hu;obtain⟨xs,ho,hr,h1⟩:=hk.sl E;have hn:n=r.es.length:=by
   rcases ho.2 with⟨X,hn⟩|⟨g,cap,cur,X,_⟩
   . rw[E]at X;injection X with _ h2 _;omega
   . rw[E]at X;injection X
 subst hn;refine⟨?_,I,ae⟩;have F:((r.es.take b).drop a).length=b-a:=by simp;omega
 rcases Nat.lt_or_ge a b with ac|af
 . obtain⟨g,rfl,rfl⟩:=O ac
   have aa:r.es≠[]:=fun e=>by rw[e]at I;simp at I;omega
   obtain⟨g',n',c',J,Y,_⟩:=hk.els E aa;rw[E]at J;injection J with Z _ _;injection Z with Z;injection Z with Z;subst Z;have h2:=AX _ 0 a (wM r.es 0 b Y);rw[Nat.zero_add,hk.sz]at h2;obtain⟨l,q1,q2,q3,q4⟩:=mM _ _ (vX _ _ h2);exact⟨_,cc,l,by rw[F],q2,q3,.inr ⟨g,a*S.sz k,rfl,q4⟩⟩
 . have he:(r.es.take b).drop a=[]:=List.eq_nil_of_length_eq_zero (by omega)
   exact⟨ab,cc,[],by rw[F],by rw[he];simp[bC],by simp,.inl he⟩
theorem wU:∀(es:List (List AV)) (a:Nat) {sz:Nat},(∀c∈es,c.length=sz)->(es.take a).flatten=es.flatten.take (a*sz)
 | [],_,_,_=>by simp
 | x::r,0,_,_=>by simp
 | x::r,a+1,sz,hl=>by
   have F:=hl x (by simp);rw[List.take_succ_cons,List.flatten_cons,List.flatten_cons,wU r a (fun c E=>hl c (by simp[E])),Nat.add_mul,Nat.one_mul,List.take_append,F];rw[List.take_of_length_le (l:=x) (by omega)]
   congr 2
   omega
theorem Cd:∀(es:List (List AV)) (a:Nat) {sz:Nat},(∀c∈es,c.length=sz)->(es.drop a).flatten=es.flatten.drop (a*sz)
 | [],_,_,_=>by simp
 | x::r,0,_,_=>by simp
 | x::r,a+1,sz,hl=>by
   have F:=hl x (by simp);rw[List.drop_succ_cons,List.flatten_cons,Cd r a (fun c E=>hl c (by simp[E])),Nat.add_mul,Nat.one_mul,List.drop_append,F];rw[List.drop_eq_nil_of_le (as:=x) (by omega),List.nil_append]
   congr 1
   omega
theorem St.storeE(O:St S w H){k:Nat}{r:Row}(hk:H k=some r){a:Nat}{news:List (List AV)}{l:List Value}(aa:∀c∈news,c.length=r.sz)(ha:a+news.length<=r.es.length)(ai:r.es≠[]){ap:Option Addr}{n0 c0:Nat}(am:S.loc k=.slice ap n0 c0)
   (hr:bC S w news.flatten l) (h1:∀u∈l,u.oneCell'=true):
   ∃g n c w',S.loc k=.slice (some ⟨g,0,none⟩) n c/\(∀P:Program,(storeCells ⟨g,a*r.sz,none⟩ l).run P w=.ok () w') /\
     St S w' (aI H k (some { r with es:=r.es.take a++news++r.es.drop (a+news.length) }))/\Grow S w S w':=by
 have hR:=O.rows k r hk;obtain⟨g,cap,cur,I,hg,ad,ar,an,ag,ab⟩:=hR.open am ai;have ae:l.length=news.length*r.sz:=by rw[iD _ _ hr,oO news aa]
 have ac:(a+news.length)*r.sz<=r.es.length*r.sz:=Nat.mul_le_mul_right _ ha;have aj:r.es.length*r.sz<=cap*r.sz:=Nat.mul_le_mul_right _ ad;rw[Nat.add_mul]at ac;have ah:∀P:Program,_:=fun P=>run_storeCells_at (P:=P) g (a*r.sz) r.e l 0 cur w hg (by rw[ae,an];omega) h1
 simp only[Nat.add_zero]at ah;refine⟨g,_,cap,_,I,ah,?_,?_⟩
 . have X:∀j,j≠g->(w.setRow g (List.take (a*r.sz) cur.toList++l++List.drop (a*r.sz+l.length) cur.toList).toArray).heap[j]?=w.heap[j]?:=fun j E=>setRow_other w g j _ E
   have al:¬S.fz g:=O.free k r hk g (by rw[I];rfl);have F:fR S w (w.setRow g (List.take (a*r.sz) cur.toList++l++List.drop (a*r.sz+l.length) cur.toList).toArray):=fun j E=>X j (fun e=>al (e▸O.ro_fz j E))
   have Z:(r.es.take a++news++r.es.drop (a+news.length)).length=r.es.length:=by simp;omega
   have e2 : List.take (r.es.length * r.sz) (List.take (a * r.sz) cur.toList ++ l ++ List.drop (a * r.sz + l.length) cur.toList) =
       (cur.toList.take (r.es.length*r.sz)).take (a*r.sz)++l++(cur.toList.take (r.es.length*r.sz)).drop (a*r.sz+l.length):=by
     rw[List.take_take,Nat.min_eq_left (by omega),List.drop_take];rw[List.take_append,List.take_append];simp only[List.length_append,List.length_take,Array.length_toList];rw[Nat.min_eq_left (by omega:a*r.sz<=cur.size)];rw[List.take_of_length_le (l:=List.take (a*r.sz) cur.toList) (by simp;omega),List.take_of_length_le (l:=l) (by omega)]
   refine⟨O.ro_fz,fun j E=>by simpa using O.fz_lt j E,?_,?_,?_,O.tabs.keep S.le_refl F⟩
   . intro j r' E
     by_cases e:j=k
     . subst e
       rw[nZ]at E;injection E with E;subst E;refine⟨hR.lt,hR.sz,hR.pos,?_,.inl ?_⟩
       . intro c Y
         rcases List.mem_append.1 Y with Y|Y
         . rcases List.mem_append.1 Y with Y|Y
           . exact hR.len c (List.mem_of_mem_take Y)
           . exact aa c Y
         . exact hR.len c (List.mem_of_mem_drop Y)
       . refine⟨(List.take (a*r.sz) cur.toList++l++List.drop (a*r.sz+l.length) cur.toList).take (r.es.length*r.sz),⟨?_,.inr ⟨g,cap,_,by rw[Z];exact I,Nat.zero_le _,setRow_heap w g cur _ _ _ hg,by rw[Z];exact ad,ar,?_,by rw[Z]⟩⟩,?_,?_⟩
         . rw[Z]
           simp only[List.length_take,List.length_append,List.length_drop,Array.length_toList];omega
         . simp only[List.size_toArray,List.length_append,List.length_take,List.length_drop,Array.length_toList]
           omega
         . have hx:=(dQ (S.le_refl) F _ _ ag)
           have hy:=(dQ (S.le_refl) F _ _ hr);have e1:(r.es.take a++news++r.es.drop (a+news.length)).flatten=r.es.flatten.take (a*r.sz)++news.flatten++r.es.flatten.drop (a*r.sz+l.length):=by
             rw[List.flatten_append,List.flatten_append,wU _ _ hR.len,Cd _ _ hR.len,Nat.add_mul,ae]
           rw[e1,e2];exact dJ _ _ _ _ (dJ _ _ _ _ (sC _ _ _ hx) hy) (vO _ _ _ hx)
         . intro u hu
           rw[e2]at hu;simp only[List.mem_append]at hu;rcases hu with(hu|hu)|hu
           . exact ab u (List.mem_of_mem_take hu)
           . exact h1 u hu
           . exact ab u (List.mem_of_mem_drop hu)
     . rw[aD _ _ _ _ e]at E
       exact(O.rows j r' E).keep S.le_refl F fun g' J=>X g' (fun e'=>O.disj j k r' r E hk e g' J (by rw[I,e'];rfl))
   . intro j r' E g' J
     by_cases e:j=k
     . subst e;exact O.free j r hk g' J
     . rw[aD _ _ _ _ e]at E;exact O.free j r' E g' J
   . intro j j' r1 r2 E au af g' J ao
     have p:∀j r',aI H k (some { r with es:=r.es.take a++news++r.es.drop (a+news.length) }) j=some r'->∃av,H j=some av:=fun j r' E=>by
       by_cases e:j=k
       . subst e;exact⟨r,hk⟩
       . rw[aD _ _ _ _ e]at E;exact⟨_,E⟩
     obtain⟨q1,ak⟩:=p j r1 E;obtain⟨q2,aq⟩:=p j' r2 au;exact O.disj j j' q1 q2 ak aq af g' J ao
 . refine⟨S.le_refl,fun _ h=>h,rfl,rfl,rfl,by simp,fun j E=>setRow_other w g j _ (fun e=>O.free k r hk g (by rw[I];rfl) (e▸E)),fun _ h=>.inl h⟩
theorem T2{k:Nat}{r:Row}(E:H k=some r):aI H k (some r)=H:=by
 funext j;by_cases e:j=k
 . subst e;rw[aA,E]
 . rw[aD _ _ _ _ e]
theorem St.copy(hS:St S w H){k:Nat}{r:Row}(hk:H k=some r){t e sz X:Nat}{t' ty:TypeId}(he:bY P t=some (e,sz,X))(aq:r.sz=sz){a n:Nat}(Y:a+n<=r.es.length){x u:Value}{news:List (List AV)}(hu:yC S w u news)(aa:cZ sz news)
   (hx:∃ad cc,x=.slice ad n cc/\(0<n->∃g n' c',S.loc k=.slice (some ⟨g,0,none⟩) n' c'/\ad=some ⟨g,a*r.sz,none⟩)):
   ∃w',(Builtin.copy_ #[t,t'] ty #[x,u]).run P w=.ok (goInt (min news.length n:Nat)) w'/\St S w' (aI H k (some { r with es:=r.es.take a++news.take (min news.length n)++r.es.drop (a+min news.length n) }))/\Grow S w S w':=by
 obtain⟨ax,z,ab,hi,ac,av,au,aj,hz,aw⟩:=jG he;obtain⟨ad,cc,rfl,al⟩:=hx;obtain⟨sa,sc,l,rfl,hl,ah,I⟩:=hu;have E:=jJ.1 aa;rcases Nat.eq_zero_or_pos (min news.length n)with h0|h0
 . refine⟨w,?_,?_,Grow.refl S w⟩
   . have am:Nat.min news.length n=0:=h0
     have ak:∀a:Addr,(loadCells a 0).run P w=.ok #[] w:=fun a=>by simpa using run_loadCells_list (P:=P) w a [] (by simp)
     rw[h0];cases ad <;> cases sa <;> simp[Builtin.copy_,run_underlying ab,Builtin.lenOf,Builtin.firstCells,sizeOf,typeInfo,hi,am,ak,storeCells]
   . rw[h0]
     have:({ r with es:=r.es.take a++news.take 0++r.es.drop (a+0) }:Row)=r:=by simp
     rw[this,T2 hk];exact hS
 . have ai:0<n:=by omega
   obtain⟨g,n',c',O,rfl⟩:=al ai;have af:r.es≠[]:=fun e=>by rw[e]at Y;simp at Y;omega
   have hm:(news.take (min news.length n)).length=min news.length n:=by simp
   have ap:(news.take (min news.length n)).flatten=news.flatten.take (min news.length n*sz):=wU _ _ E;have an:bC S w (news.take (min news.length n)).flatten (l.take (min news.length n*sz)):=by rw[ap];exact sC _ _ _ hl
   obtain⟨g',n2,c2,w',F,ar,q1,q2⟩:=hS.storeE hk (a:=a) (news:=news.take (min news.length n)) (l:=l.take (min news.length n*sz)) (fun c hc=>by rw[aq];exact E c (List.mem_of_mem_take hc)) (by rw[hm];omega) af O an (fun u hu=>ah u (List.mem_of_mem_take hu));rw[O]at F;injection F with i1 _ _;injection i1 with i1;injection i1 with i1;subst i1;rw[hm]at q1;refine⟨w',?_,q1,q2⟩;rcases I with I|⟨b,o,rfl,J⟩
   . rw[I]at h0;simp at h0
   . have ag:l.length=news.length*sz:=by rw[iD _ _ hl,oO news E]
     have ao:(l.take (min news.length n*sz)).length=min news.length n*sz:=by
       rw[List.length_take,ag];exact Nat.min_eq_left (Nat.mul_le_mul_right _ (Nat.min_le_left _ _))
     have ae:=run_loadCells_list (P:=P) w ⟨b,o,none⟩ (l.take (min news.length n*sz)) (fun j v hj=>by
       rw[Addr.add_lit];refine J j v ?_;rw[List.getElem?_take]at hj;split at hj
       . exact hj
       . simp at hj)
     rw[ao]at ae;have Z:Nat.min news.length n=min news.length n:=rfl;simp[Builtin.copy_,run_underlying ab,Builtin.lenOf,Builtin.firstCells,sizeOf,typeInfo,hi,ac,Z,ae,ar P]
theorem yA(z:Array Value)(E:0<z.size):∀m,(Builtin.zeroCells z m).toList=(List.replicate m z.toList).flatten
 | 0=>by simp[Builtin.zeroCells]
 | m+1=>by
   have ih:=yA z E m;rw[show List.replicate (m+1) z.toList=List.replicate m z.toList++[z.toList]from List.replicate_succ',List.flatten_append,<-ih];simp only[Builtin.zeroCells,Array.toList_map,Array.toList_range,Nat.add_mul,Nat.one_mul,List.flatten_cons,List.flatten_nil,List.append_nil];rw[List.range_add,List.map_append]
   congr 1
   apply List.ext_getElem
   . simp
   . intro i h1 F
     simp only[List.length_map,List.length_range]at h1;simp[Nat.add_comm (m*z.size),Nat.add_mul_mod_self_right,Nat.mod_eq_of_lt h1,h1]
theorem St.clear(hS:St S w H){k:Nat}{r:Row}(hk:H k=some r){t e sz O:Nat}{ty:TypeId}{zs:List AV}(he:bY P t=some (e,sz,O))(ae:dR P e=some zs)(ao:r.sz=sz){a n:Nat}(X:a+n<=r.es.length){x:Value}
   (hx:∃ad cc,x=.slice ad n cc/\(0<n->∃g n' c',S.loc k=.slice (some ⟨g,0,none⟩) n' c'/\ad=some ⟨g,a*r.sz,none⟩)):
   ∃w',(Builtin.clear_ #[t] ty #[x]).run P w=.ok (.tuple #[]) w'/\St S w' (aI H k (some { r with es:=r.es.take a++List.replicate n zs++r.es.drop (a+n) }))/\Grow S w S w':=by
 obtain⟨an,z,Z,hi,aj,ak,ai,af,hz,ah⟩:=jG he;obtain⟨i',v,F,I,rfl,al,am,h1⟩:=nS ae;rw[hi]at F;injection F with F;subst F;rw[hz]at I;injection I with I;subst I;obtain⟨ad,cc,rfl,ac⟩:=hx;rcases Nat.eq_zero_or_pos n with h0|h0
 . subst h0
   refine⟨w,?_,?_,Grow.refl S w⟩
   . cases ad <;> simp[Builtin.clear_,run_underlying Z]
   . have:({ r with es:=r.es.take a++List.replicate 0 (z.cells.toList.map qV)++r.es.drop (a+0) }:Row)=r:=by simp
     rw[this,T2 hk];exact hS
 . obtain⟨g,n',c',J,rfl⟩:=ac h0
   have ab:r.es≠[]:=fun e=>by rw[e]at X;simp at X;omega
   have aa:∀m,bC S w (List.replicate m (z.cells.toList.map qV)).flatten (List.replicate m z.cells.toList).flatten:=by
     intro m;induction m with
     | zero=>simp[bC]
     | succ m ih=>simp only[List.replicate_succ,List.flatten_cons];exact dJ _ _ _ _ (mK _) ih
   obtain⟨g',n2,c2,w',E,ag,q1,q2⟩:=hS.storeE hk (a:=a) (news:=List.replicate n (z.cells.toList.map qV)) (l:=(List.replicate n z.cells.toList).flatten) (fun c hc=>by rw[List.eq_of_mem_replicate hc];simp;omega) (by rw[List.length_replicate];omega) ab J (aa n) (fun u hu=>by
     obtain⟨l,hl,hu⟩:=List.mem_flatten.1 hu;rw[List.eq_of_mem_replicate hl]at hu;exact h1 u hu)
   rw[J]at E;injection E with Y _ _;injection Y with Y;injection Y with Y;subst Y;rw[List.length_replicate]at q1;refine⟨w',?_,q1,q2⟩;obtain⟨m,rfl⟩:∃m,n=m+1:=⟨n-1,by omega⟩;simp[Builtin.clear_,run_underlying Z,zeroValue,typeInfo,hi,hz,yA z.cells (by omega) (m+1),ag P]
theorem CR{t ty e:TypeId}{i:TypeInfo}{size n c:Nat}{v:Value}{xs:List Value}(I:P.underlying t=some (.slice e))(hi:P.info? e=some i)(E:w.ownsRow 0 e size v n xs):
   (Builtin.append_ #[t,t] ty #[v,.slice none 0 c]).run P w=.ok v w:=by
 rcases E.2 with⟨rfl,rfl⟩|⟨g,cap,cur,rfl,_,_,F,_⟩
 . simp[Builtin.append_,run_underlying I,sizeOf,typeInfo,hi,Builtin.lenOf,Builtin.firstCells]
 . simp[Builtin.append_,run_underlying I,sizeOf,typeInfo,hi,Builtin.lenOf,Builtin.firstCells,F,storeCells]
theorem St.append(Z:St S w H){k:Nat}{r:Row}(hk:H k=some r){a5:Option Addr}{n0 c0:Nat}(ar:S.loc k=.slice a5 n0 c0){t ty:TypeId}{aa:Nat}(he:bY P t=some (r.e,r.sz,aa)){news:List (List AV)}{u:Value}(hu:yC S w u news)
   (aw:cZ r.sz news) (hb:(r.es.length+news.length)*aa<=140737488355328):
   ∃I w',(Builtin.append_ #[t,t] ty #[S.loc k,u]).run P w=.ok I w'/\(∃a n c,I=.slice a n c) /\
     St (S.addRow I r.sz) w' (aI (aI H k none) S.N (some ⟨r.e,r.sz,r.es++news⟩))/\Grow S w (S.addRow I r.sz) w':=by
 have hR:=Z.rows k r hk;obtain⟨a6,z,ax,hi,a7,a0,ak,an,hz,a4⟩:=jG he;obtain⟨xs,ho,hr,h1⟩:=hR.sl ar;obtain⟨ad,c,l,rfl,hl,ap,al⟩:=hu;have ag:=jJ.1 aw;have am:l.length=news.length*r.sz:=by rw[iD _ _ hl,oO news ag]
 have a9:r.es.length+news.length<=140737488355328:=Nat.le_trans (Nat.le_mul_of_pos_right _ an) hb;have a8 : ∃ I w', (Builtin.append_ #[t, t] ty #[S.loc k, .slice ad news.length c]).run P w = .ok I w' /\ w'.ownsRow 0 r.e r.sz I (r.es.length + news.length) (xs ++ l) /\ w.grownBy w' (blk (S.loc k)) /\
     (blk I=blk (S.loc k)\/blk I=some w.heap.size):=by
   cases ad with
   | none=>
     have hn:news=[]:=by
       rcases al with h|⟨b,o,h,_⟩
       . exact h
       . simp at h
     subst hn;have ao:l=[]:=List.eq_nil_of_length_eq_zero (by rw[am];simp);subst ao;exact⟨S.loc k,w,CR ax hi ho,by simpa using ho,World.grownBy.refl w _,.inl rfl⟩
   | some a=>
     have aj:∀j x,l[j]?=some x->w.cell? (a.add j)=some x:=by
       rcases al with h|⟨b,o,h,hc⟩
       . subst h
         have ao:l=[]:=List.eq_nil_of_length_eq_zero (by rw[am];simp);subst ao;simp
       . injection h with h
         subst h;intro j x F;rw[Addr.add_lit];exact hc j x F
     obtain⟨I,w',q1,q2,q3,_,q5⟩:=run_append_own_at (P:=P) w 0 t ty r.e a6 z r.sz aa ax hi hz a7 a0 a4 ak (S.loc k) r.es.length xs ho a news.length c l am aj ap
       (by simp only[maxLen];omega) hb (Nat.zero_le _)
     have av:blk (S.loc k)=(S.loc k).ownBlock:=by rw[ar];exact alY _ _ _
     have ay:blk I=I.ownBlock:=by
       rcases q2.2 with⟨h,_⟩|⟨_,_,_,h,_⟩ <;> (rw[h];rfl)
     exact⟨I,w',q1,q2,by rw[av];exact q3,by rw[av,ay];exact q5⟩
 obtain⟨I,w',q1,q2,q3,q4⟩:=a8;have ai:=Z.free k r hk;have ae:∀j,S.fz j->w'.heap[j]?=w.heap[j]?:=fun j F=>q3.block j (Z.fz_lt j F) (fun e=>ai j e.symm F)
 have J:fR S w w':=Z.kept ae;have O:=S.le_addRow I r.sz;have X:(S.addRow I r.sz).loc S.N=I:=by simp[Sg.addRow]
 have az:∀g,blk I=some g->¬S.fz g:=fun g E hf=>by
   rcases q4 with e|e
   . exact ai g (e▸E) hf
   . rw[e]at E;injection E with E;subst E;exact Nat.lt_irrefl _ (Z.fz_lt _ hf)
 have Y:∀j r',j≠S.N->aI (aI H k none) S.N (some ⟨r.e,r.sz,r.es++news⟩) j=some r'->j≠k/\H j=some r':=fun j r' F h=>by
   rw[aD _ _ _ _ F]at h;by_cases e:j=k
   . subst e;rw[aA]at h;simp at h
   . rw[aD _ _ _ _ e]at h;exact⟨e,h⟩
 have af:∀j r',j≠k->H j=some r'->∀g,blk (S.loc j)=some g->some g≠blk (S.loc k)/\g<w.heap.size:=fun j r' F ab g E=>
   ⟨fun e=>Z.disj j k r' r ab hk F g E e.symm,(Z.rows j r' ab).block_lt E⟩
 have au:∀j r',j≠k->H j=some r'->∀g,blk (S.loc j)=some g->blk I≠some g:=fun j r' F ab g E e=>by
   obtain⟨e1,e2⟩:=af j r' F ab g E;rcases q4 with e'|e'
   . exact e1 (by rw[<-e',e])
   . rw[e']at e;injection e with e;omega
 refine⟨I,w',q1,?_,⟨Z.ro_fz,fun j F=>Nat.lt_of_lt_of_le (Z.fz_lt j F) q3.size,?_,?_,?_,Z.tabs.keep O J⟩,⟨O,fun _ h=>h,q3.os,q3.tape,q3.output,q3.size,ae,fun _ h=>.inl h⟩⟩
 . rcases q2.2 with⟨h,_⟩|⟨g,cap,cur,h,_⟩
   . exact⟨_,_,_,h⟩
   . exact⟨_,_,_,h⟩
 . intro j r' F
   by_cases e:j=S.N
   . subst e
     rw[aA]at F;injection F with F;subst F;refine⟨Nat.lt_succ_self _,by simp[Sg.addRow],ak,?_,.inl ⟨xs++l,?_,?_,?_⟩⟩
     . intro cs ah
       rcases List.mem_append.1 ah with ah|ah
       . exact hR.len cs ah
       . exact ag cs ah
     . rw[X,List.length_append];exact q2
     . rw[List.flatten_append]
       exact dJ _ _ _ _ (dQ O J _ _ hr) (dQ O J _ _ hl)
     . intro x hx
       rcases List.mem_append.1 hx with hx|hx
       . exact h1 x hx
       . exact ap x hx
   . obtain⟨e1,e2⟩:=Y j r' e F
     exact(Z.rows j r' e2).keep O J fun g E=>q3.block g (af j r' e1 e2 g E).2 (af j r' e1 e2 g E).1
 . intro j r' F g E
   by_cases e:j=S.N
   . subst e;rw[X]at E;exact az g E
   . obtain⟨e1,e2⟩:=Y j r' e F
     rw[O.loc j (Z.rows j r' e2).lt]at E;exact Z.free j r' e2 g E
 . intro j j' r1 r2 F ab aq g E ac
   by_cases e:j=S.N
   . subst e
     rw[X]at E;obtain⟨e1,e2⟩:=Y j' r2 (Ne.symm aq) ab;rw[O.loc j' (Z.rows j' r2 e2).lt]at ac;exact au j' r2 e1 e2 g ac E
   . obtain⟨e1,e2⟩:=Y j r1 e F
     rw[O.loc j (Z.rows j r1 e2).lt]at E;by_cases e':j'=S.N
     . subst e'
       rw[X]at ac;exact au j r1 e1 e2 g E ac
     . obtain⟨e3,e4⟩:=Y j' r2 e' ab
       rw[O.loc j' (Z.rows j' r2 e4).lt]at ac;exact Z.disj j j' r1 r2 e2 e4 aq g E ac
theorem JS{es:List (List AV)}{J:Option Addr}{n:Nat}(h:rep S w (.cl es) (.slice J n n)){sz:Nat}(Y:cZ sz es):
   ∃l,l.length=es.length*sz/\bC S w es.flatten l/\(∀x∈l,x.oneCell'=true)/\n=es.length/\n<=maxLen/\(es=[]\/∃b o,J=some ⟨b,o,none⟩/\∀j x,l[j]?=some x->w.cell? ⟨b,o+j,none⟩=some x):=by
 simp only[rep]at h;obtain⟨aa,n',e,rfl,X,h4⟩:=h;injection e with O F I;subst O F;rcases h4 with rfl|⟨b,o,Z,rfl,hb,hs,E⟩
 . exact⟨[],by simp,by simp[bC],by simp,rfl,X,.inl rfl⟩
 . obtain⟨l,O,F,I,e4⟩:=mM _ _ (vX es o E)
   refine⟨l,?_,F,I,rfl,X,.inr ⟨b,o,rfl,e4⟩⟩;rw[iD _ _ F,oO es (jJ.1 Y)]
theorem St.appendNew(Z:St S w H){es:List (List AV)}{us:Value}(au:rep S w (.cl es) us){t ty e:TypeId}{sz O:Nat}(he:bY P t=some (e,sz,O)){news:List (List AV)}{u:Value}(hu:yC S w u news)(aq:news≠[])
   (ar:cZ sz es) (az:cZ sz news) (hb:(es.length+news.length)*O<=140737488355328):
   ∃v' w',(Builtin.append_ #[t,t] ty #[us,u]).run P w=.ok v' w'/\(∃a n c,v'=.slice a n c) /\
     St (S.addRow v' sz) w' (aI H S.N (some ⟨e,sz,es++news⟩))/\Grow S w (S.addRow v' sz) w':=by
 obtain⟨a7,z,a4,hi,a9,av,ah,an,hz,aw⟩:=jG he;have al:=au;simp only[rep]at al;obtain⟨ax,n0,rfl,_⟩:=al;obtain⟨l0,aj,ba,bc,rfl,bg,a6⟩:=JS au ar;obtain⟨ad,c,l,rfl,hl,ap,a8⟩:=hu;have ai:=jJ.1 az;have a5:=jJ.1 ar;have am:l.length=news.length*sz:=by rw[iD _ _ hl,oO news ai]
 have be:0<news.length:=List.length_pos_iff.2 aq;have bf:es.length+news.length<=140737488355328:=Nat.le_trans (Nat.le_mul_of_pos_right _ an) hb;obtain⟨b,o,rfl,hcell⟩:∃b o,ad=some ⟨b,o,none⟩/\∀j x,l[j]?=some x->w.cell? ⟨b,o+j,none⟩=some x:=by
   rcases a8 with h|h
   . exact absurd h aq
   . exact h
 have af:∀j x,l[j]?=some x->w.cell? ((⟨b,o,none⟩:Addr).add j)=some x:=fun j x hj=>by rw[Addr.add_lit];exact hcell j x hj
 have bd:∃v' w',(Builtin.append_ #[t,t] ty #[.slice ax es.length es.length,.slice (some ⟨b,o,none⟩) news.length c]).run P w=.ok v' w'/\w'.ownsRow w.heap.size e sz v' (es.length+news.length) (l0++l)/\w.grownBy w' none:=by
   cases ax with
   | none=>
     have bb:es=[]:=by
       rcases a6 with h|⟨_,_,h,_⟩
       . exact h
       . cases h
     subst bb;obtain rfl:l0=[]:=List.eq_nil_of_length_eq_zero (by simpa using aj);obtain⟨v',w',q1,q2,q3,_⟩:=run_append_own (P:=P) w w.heap.size t ty e a7 z sz O a4 hi hz a9 av aw ah (.slice none 0 0) 0 [] (World.ownsRow_nil w _ e sz) ⟨b,o,none⟩ news.length c l am af ap (by simp only[maxLen];omega) hb (Nat.le_refl _);exact⟨v',w',q1,q2,q3⟩
   | some a0=>
     have ao:∀j x,l0[j]?=some x->w.cell? (a0.add j)=some x:=by
       rcases a6 with h|⟨b0,o0,h,hc⟩
       . subst h
         obtain rfl:l0=[]:=List.eq_nil_of_length_eq_zero (by simpa using aj);simp
       . injection h with h
         subst h;intro j x hj;rw[Addr.add_lit];exact hc j x hj
     exact run_append_arg_grows (P:=P) w t ty e a7 z sz O a4 hi hz a9 av aw ah a0 es.length es.length l0 aj ao ⟨b,o,none⟩ news.length c l am af (by omega) (by simp only[maxLen];omega) hb
 obtain⟨v',w',q1,q2,q3⟩:=bd;obtain⟨g,cap,cur,hv,hg0,hg,hnc,hcm,ae,htk⟩:∃g cap cur,v'=.slice (some ⟨g,0,none⟩) (es.length+news.length) cap/\w.heap.size<=g/\w'.heap[g]?=some (.cells cur e (0,0))/\es.length+news.length<=cap/\cap<=maxLen/\cur.size=cap*sz/\cur.toList.take ((es.length+news.length)*sz)=l0++l:=by
   rcases q2.2 with⟨_,h⟩|⟨g,cap,cur,h1,h2,h3,h4,h5,h6,h7⟩
   . omega
   . exact⟨g,cap,cur,h1,h2,h3,h4,h5,h6,h7⟩
 subst hv;have ac:∀k,k<w.heap.size->w'.heap[k]?=w.heap[k]?:=fun k X=>q3.block k X (by simp)
 have F:fR S w w':=fun k X=>ac k (Z.fz_lt k (Z.ro_fz k X))
 have I:=S.le_addRow (.slice (some ⟨g,0,none⟩) (es.length+news.length) cap) sz;have J:(S.addRow (.slice (some ⟨g,0,none⟩) (es.length+news.length) cap) sz).loc S.N=.slice (some ⟨g,0,none⟩) (es.length+news.length) cap:=by simp[Sg.addRow]
 have Y:∀k r,k≠S.N->aI H S.N (some ⟨e,sz,es++news⟩) k=some r->H k=some r:=fun k r X h=>by rwa [aD _ _ _ _ X]at h
 refine⟨_,w',q1,⟨_,_,_,rfl⟩,⟨Z.ro_fz,fun k X=>Nat.lt_of_lt_of_le (Z.fz_lt k X) q3.size,?_,?_,?_,Z.tabs.keep I F⟩,⟨I,fun _ h=>h,q3.os,q3.tape,q3.output,q3.size,fun k X=>ac k (Z.fz_lt k X),fun _ h=>.inl h⟩⟩
 . intro k r X
   by_cases e0:k=S.N
   . subst e0
     rw[aA]at X;injection X with X;subst X;refine⟨Nat.lt_succ_self _,by simp[Sg.addRow],ah,?_,.inl ⟨l0++l,?_,?_,?_⟩⟩
     . intro cs ae
       rcases List.mem_append.1 ae with ae|ae
       . exact a5 cs ae
       . exact ai cs ae
     . rw[J,List.length_append]
       exact⟨by rw[List.length_append,aj,am,Nat.add_mul],.inr ⟨g,cap,cur,rfl,Nat.zero_le _,hg,hnc,hcm,ae,htk⟩⟩
     . rw[List.flatten_append]
       exact dJ _ _ _ _ (dQ I F _ _ ba) (dQ I F _ _ hl)
     . intro x hx
       rcases List.mem_append.1 hx with hx|hx
       . exact bc x hx
       . exact ap x hx
   . have aa:=Y k r e0 X
     exact(Z.rows k r aa).keep I F fun g' E=>ac g' ((Z.rows k r aa).block_lt E)
 . intro k r X g' E
   by_cases e0:k=S.N
   . subst e0
     rw[J]at E;simp only[blk,Option.some.injEq]at E;subst E;exact fun h=>by have:=Z.fz_lt _ h;omega
   . have aa:=Y k r e0 X
     rw[I.loc k (Z.rows k r aa).lt]at E;exact Z.free k r aa g' E
 . intro k k' r r' X aa ak g' E ab
   by_cases e0:k=S.N
   . subst e0
     rw[J]at E;simp only[blk,Option.some.injEq]at E;subst E;have ag:=Y k' r' (Ne.symm ak) aa;rw[I.loc k' (Z.rows k' r' ag).lt]at ab;have:=(Z.rows k' r' ag).block_lt ab;omega
   . have ag:=Y k r e0 X
     rw[I.loc k (Z.rows k r ag).lt]at E;by_cases e1:k'=S.N
     . subst e1
       rw[J]at ab;simp only[blk,Option.some.injEq]at ab;subst ab;have:=(Z.rows k r ag).block_lt E;omega
     . have ay:=Y k' r' e1 aa
       rw[I.loc k' (Z.rows k' r' ay).lt]at ab;exact Z.disj k k' r r' ag ay ak g' E ab
end
end Go.Aw
end
section
namespace Go.Aw
open Go.RowKit
mutual
inductive Conv (H:aJ):AV->AV->Prop
 | refl (x:AV):Conv H x x
 | any (x:AV):Conv H x .any
 | row (k:Nat) (r:Row) (es:List (List AV)):H k=some r->ConvE H r.es es->Conv H (.os k) (.sl es)
 | sl (es es':List (List AV)):ConvE H es es'->Conv H (.sl es) (.sl es')
 | agg (cs cs':List AV):ConvL H cs cs'->Conv H (.agg cs) (.agg cs')
 | tup (cs cs':List AV):ConvL H cs cs'->Conv H (.tup cs) (.tup cs')
 | ptr (k i f:Nat) (r:Row) (cs:List AV):H k=some r->i<r.es.length->ConvL H (r.es.getD i []) cs->Conv H (.op k i f) (.rp cs f)
 | fn (f:FuncId) (cap cap':List AV):ConvL H cap cap'->Conv H (.fn f cap) (.fn f cap')
inductive ConvL (H:aJ):List AV->List AV->Prop
 | nil:ConvL H [] []
 | cons (x y:AV) (r s:List AV):Conv H x y->ConvL H r s->ConvL H (x::r) (y::s)
inductive ConvE (H:aJ):List (List AV)->List (List AV)->Prop
 | nil:ConvE H [] []
 | cons (x y:List AV) (r s:List (List AV)):ConvL H x y->ConvE H r s->ConvE H (x::r) (y::s)
end
theorem ConvL.refl{H:aJ}:∀l,ConvL H l l
 | []=>.nil
 | x::r=>.cons x x r r (.refl x) (ConvL.refl r)
theorem ConvE.refl{H:aJ}:∀l,ConvE H l l
 | []=>.nil
 | x::r=>.cons x x r r (ConvL.refl x) (ConvE.refl r)
def Sg.froze(S:Sg)(H:aJ):Sg:=
 { S with ro:=fun g=>S.ro g\/∃k r,H k=some r/\blk (S.loc k)=some g,fz:=fun g=>S.fz g\/∃k r,H k=some r/\blk (S.loc k)=some g }
theorem Sg.le_froze(S:Sg)(H:aJ):S.le (S.froze H):=⟨fun _ h=>.inl h,Nat.le_refl _,fun _ _=>rfl,fun _ _=>rfl⟩
section
variable{S:Sg}{w:World}{H:aJ}
theorem ConvE.len:∀{es es':List (List AV)},ConvE H es es'->es'.length=es.length
 | _,_,.nil=>rfl
 | _,_,.cons _ _ _ _ _ h=>by simp[ConvE.len h]
mutual
theorem Conv.rep(J:St S w H):∀{x y:AV} {u:Value},Conv H x y->rep S w x u->Aw.rep (S.froze H) w y u
 | _,_,_,.refl x,h=>lD (S.le_froze H) (fR.refl S w) _ _ h
 | _,_,_,.any x,_=>by simp only[Aw.rep]
 | _,_,u,.row k r es hk I,h=>by
   simp only[Aw.rep]at h |-;obtain⟨_,rfl,_,_,_,O⟩:=h;have X:=J.rows k r hk;obtain⟨xs,ho,hr,h1⟩:=X.sl O;rcases ho.2 with⟨Y,hn⟩|⟨g,cap,cur,Y,_,h2,h3,h4,h5⟩
   . have h0:=List.eq_nil_of_length_eq_zero hn
     refine⟨none,0,0,Y,by rw[I.len,hn],Nat.le_refl _,Nat.zero_le _,.inl ?_⟩;exact List.eq_nil_of_length_eq_zero (by rw[I.len,hn])
   . refine⟨_,_,cap,Y,I.len,h3,h4,.inr ⟨g,0,r.sz,rfl,.inr ⟨k,r,hk,by rw[Y];rfl⟩,X.pos,?_⟩⟩
     refine ConvE.rep J I ?_;refine qD _ _ X.len (jS _ xs 0 hr h1 fun j u hu=>?_);have:=ho.cells (g:=g) (by rw[Y];rfl) j u hu
     rwa [Addr.add_lit]at this
 | _,_,_,.sl es es' I,h=>by
   simp only[Aw.rep]at h |-;obtain⟨ad,n,c,rfl,h1,h2,h3,h4⟩:=h;refine⟨ad,n,c,rfl,by rw[I.len,h1],h2,h3,?_⟩;rcases h4 with h4|⟨b,o,sz,rfl,hb,hs,Z⟩
   . exact .inl (List.eq_nil_of_length_eq_zero (by rw[I.len,h4];rfl))
   . exact .inr ⟨b,o,sz,rfl,.inl hb,hs,ConvE.rep J I Z⟩
 | _,_,_,.agg cs cs' hc,h=>by
   simp only[Aw.rep]at h |-;obtain⟨l,rfl,h1,h2⟩:=h;exact⟨l,rfl,ConvL.rep J hc h1,h2⟩
 | _,_,_,.tup cs cs' hc,h=>by
   simp only[Aw.rep]at h |-;obtain⟨l,rfl,h1⟩:=h;exact⟨l,rfl,ConvL.rep J hc h1⟩
 | _,_,_,.ptr k i f r cs hk hi hc,h=>by
   simp only[Aw.rep]at h |-;obtain⟨_,g,n,c,F,rfl⟩:=h;have X:=J.rows k r hk;have aa:r.es≠[]:=fun e=>by rw[e]at hi;simp at hi
   obtain⟨g',n',c',E,I,_⟩:=X.els F aa;rw[F]at E;injection E with e1 e2 e3;injection e1 with e1;injection e1 with e1;subst e1;obtain⟨e4,e5⟩:=sB _ 0 i I hi;rw[Nat.zero_add,X.sz]at e5;exact⟨g,i*S.sz k,rfl,.inr ⟨k,r,hk,by rw[F];rfl⟩,(ConvL.cells J hc e5).1⟩
 | _,_,_,.fn f cap cap' hc,h=>by
   simp only[Aw.rep]at h |-;obtain⟨l,rfl,h1⟩:=h;exact⟨l,rfl,ConvL.rep J hc h1⟩
theorem ConvL.rep(E:St S w H):∀{x y:List AV} {l:List Value},ConvL H x y->bC S w x l->bC (S.froze H) w y l
 | _,_,_,.nil,h=>h
 | _,_,_,.cons x y r s hx hr,h=>by
   simp only[bC]at h |-;obtain⟨u,t,rfl,h1,F⟩:=h;exact⟨u,t,rfl,Conv.rep E hx h1,ConvL.rep E hr F⟩
theorem ConvL.cells(E:St S w H){b:Nat}:∀{x y:List AV} {o:Nat},ConvL H x y->cU S w b o x->cU (S.froze H) w b o y/\y.length=x.length
 | _,_,_,.nil,_=>⟨trivial,rfl⟩
 | _,_,o,.cons x y r s hx hr,h=>by
   simp only[cU]at h |-;obtain⟨⟨u,h1,X,O⟩,I⟩:=h;obtain⟨F,J⟩:=ConvL.cells E hr I;exact⟨⟨⟨u,h1,X,Conv.rep E hx O⟩,F⟩,by simp[J]⟩
theorem ConvE.rep(E:St S w H){b sz:Nat}:∀{x y:List (List AV)} {o:Nat},ConvE H x y->iG S w b sz o x->iG (S.froze H) w b sz o y
 | _,_,_,.nil,_=>trivial
 | _,_,o,.cons x y r s hx hr,h=>by
   simp only[iG]at h |-;obtain⟨h1,O,J⟩:=h;obtain⟨F,I⟩:=ConvL.cells E hx O;exact⟨by rw[I,h1],F,ConvE.rep E hr J⟩
end
end
mutual
def fv:AV->Option Value
 | .v x=>some x
 | .tup vs=>(fvL vs).map fun l=>.tuple l.toArray
 | .agg vs=>(fvL vs).map fun l=>.agg l.toArray
 | _=>none
def fvL:List AV->Option (List Value)
 | []=>some []
 | x::r=>match fv x,fvL r with
   | some u,some l=>some (u::l)
   | _,_=>none
end
mutual
theorem Sv{S:Sg}{w:World}:∀{x:AV} {u v:Value},fv x=some v->rep S w x u->u=v
 | .v x,u,v,h,hr=>by
   simp only[fv]at h;injection h with h;subst h;simpa only[rep]using hr
 | .tup vs,u,v,h,hr=>by
   simp only[fv]at h;cases E:fvL vs with
   | none=>simp[E]at h
   | some l=>
     simp[E]at h;subst h;simp only[rep]at hr;obtain⟨l',rfl,h1⟩:=hr;rw[Kl E h1]
 | .agg vs,u,v,h,hr=>by
   simp only[fv]at h;cases E:fvL vs with
   | none=>simp[E]at h
   | some l=>
     simp[E]at h;subst h;simp only[rep]at hr;obtain⟨l',rfl,h1,_⟩:=hr;rw[Kl E h1]
 | .any,_,_,h,_=>by simp[fv]at h
 | .sl _,_,_,h,_=>by simp[fv]at h
 | .rp _ _,_,_,h,_=>by simp[fv]at h
 | .os _,_,_,h,_=>by simp[fv]at h
 | .op _ _ _,_,_,h,_=>by simp[fv]at h
 | .gd _ _,_,_,h,_=>by simp[fv]at h
 | .fn _ _,_,_,h,_=>by simp[fv]at h
 | .nf _,_,_,h,_=>by simp[fv]at h
 | .oz _ _ _,_,_,h,_=>by simp[fv]at h
 | .cl _,_,_,h,_=>by simp[fv]at h
theorem Kl{S:Sg}{w:World}:∀{x:List AV} {u v:List Value},fvL x=some v->bC S w x u->u=v
 | [],u,v,h,hr=>by
   simp only[fvL]at h;injection h with h;subst h;simpa only[bC]using hr
 | x::r,u,v,h,hr=>by
   simp only[fvL]at h;cases h1:fv x with
   | none=>simp[h1]at h
   | some a=>
     cases E:fvL r with
     | none=>simp[h1,E]at h
     | some l=>
       simp[h1,E]at h;subst h;simp only[bC]at hr;obtain⟨J,t,rfl,F,I⟩:=hr;rw[Sv h1 F,Kl E I]
end
mutual
theorem Xn{S I:Sg}{w F:World}:∀{x:AV} {u v:Value},fv x=some v->rep S w x u->rep I F x u
 | .v x,u,v,h,hr=>by simpa only[rep]using hr
 | .tup vs,u,v,h,hr=>by
   simp only[fv]at h;cases E:fvL vs with
   | none=>simp[E]at h
   | some l=>
     simp only[rep]at hr |-;obtain⟨l',rfl,h1⟩:=hr;exact⟨l',rfl,Lx E h1⟩
 | .agg vs,u,v,h,hr=>by
   simp only[fv]at h;cases E:fvL vs with
   | none=>simp[E]at h
   | some l=>
     simp only[rep]at hr |-;obtain⟨l',rfl,h1,J⟩:=hr;exact⟨l',rfl,Lx E h1,J⟩
 | .any,_,_,h,_=>by simp[fv]at h
 | .sl _,_,_,h,_=>by simp[fv]at h
 | .rp _ _,_,_,h,_=>by simp[fv]at h
 | .os _,_,_,h,_=>by simp[fv]at h
 | .op _ _ _,_,_,h,_=>by simp[fv]at h
 | .gd _ _,_,_,h,_=>by simp[fv]at h
 | .fn _ _,_,_,h,_=>by simp[fv]at h
 | .nf _,_,_,h,_=>by simp[fv]at h
 | .oz _ _ _,_,_,h,_=>by simp[fv]at h
 | .cl _,_,_,h,_=>by simp[fv]at h
theorem Lx{S O:Sg}{w I:World}:∀{x:List AV} {u v:List Value},fvL x=some v->bC S w x u->bC O I x u
 | [],u,v,h,hr=>by simpa only[bC]using hr
 | x::r,u,v,h,hr=>by
   simp only[fvL]at h;cases h1:fv x with
   | none=>simp[h1]at h
   | some a=>
     cases E:fvL r with
     | none=>simp[h1,E]at h
     | some l=>
       simp only[bC]at hr |-;obtain⟨F,t,rfl,J,X⟩:=hr;exact⟨F,t,rfl,Xn h1 J,Lx E X⟩
end
def anO(S:Sg)(w:World)(H:aJ)(R:AV->aJ->Prop)(e:Ending)(w':World):Prop:=
 ∃v r H' S',e=.returned v/\R r H'/\St S' w' H'/\rep S' w' r v/\Grow S w S' w'/\fM S.N H H'
def bA(P:Program)(f:FuncId)(args:List AV)(H:aJ)(R:AV->aJ->Prop):Prop:=
 ∀S w (vals:List Value),St S w H->bC S w args vals->Calls P f vals.toArray w (anO S w H R)
def bS:aJ:=fun _=>none
def RC(P:Program)(f:FuncId)(args:List AV)(R:AV->aJ->Prop):Prop:=
 ∀S w (vals:List Value),St S w bS->(∀k,k<w.heap.size->S.fz k)->bC S w args vals->Calls P f vals.toArray w (anO S w bS R)
def PC(P:Program)(f:FuncId)(args:List AV)(r:AV):Prop:=RC P f args fun x _=>x=r
def NC(P:Program)(f:FuncId)(args:List AV)(row:Row)(mk:Nat->AV):Prop:=RC P f args fun x H'=>∃k,x=mk k/\H' k=some row
def BE(P:Program)(f:FuncId)(args:List AV)(H:aJ)(r:AV):Prop:=∃args',ConvL H args args'/\PC P f args' r/\(fv r).isSome=true
def dG(P:Program)(f:FuncId)(args:List AV)(H:aJ)(r:AV):Prop:=BE P f args H r\/∃x,r=.nf x/\PC P f args x
theorem OQ{q:Bool}{r:AV}{K:AV->Prop}(h:(fv r).isSome=true):nfq q r K=K r:=by
 cases q <;> cases r <;> first|rfl|(simp[fv]at h)
theorem Pn{q:Bool}{r:AV}{K:AV->Prop}(h:nfq q r K):∃z,K z:=by
 unfold nfq at h;split at h
 . exact h.elim
 . exact⟨_,h⟩
 . exact⟨_,h⟩
section
variable{P:Program}{f:FuncId}{args:List AV}{H:aJ}{R K:AV->aJ->Prop}
theorem RC.mono(h:RC P f args R)(O:∀r H',R r H'->K r H'):RC P f args K:=fun S w vals I F J=>
 (h S w vals I F J).mono fun _ _ ⟨v,r,H',S',h1,E,X⟩=>⟨v,r,H',S',h1,O r H' E,X⟩
theorem St.drop{S:Sg}{w:World}{H':aJ}(h:St S w H)(F:∀k r,H' k=some r->H k=some r):St S w H':=
 ⟨h.ro_fz,h.fz_lt,fun k r E=>h.rows k r (F k r E),fun k r E=>h.free k r (F k r E),fun k k' r r' E I=>h.disj k k' r r' (F k r E) (F k' r' I),h.tabs⟩
theorem RC.conv{r:AV}(h:RC P f args fun x H'=>Conv H' x r):PC P f args r:=fun S w vals Y O ha=>
 (h S w vals Y O ha).mono fun e w' ⟨v,x,H',S',he,hx,F,X,J,hn⟩=>by
   refine⟨v,r,bS,S'.froze H',he,rfl,⟨?_,?_,fun k r I=>by simp[bS]at I,fun k r I=>by simp[bS]at I,fun k k' r r' I=>by simp[bS]at I,F.tabs.keep (S'.le_froze H') (fR.refl S' w')⟩,hx.rep F X,?_,fun _ _ _=>rfl⟩
   . rintro g (E|E)
     . exact .inl (F.ro_fz g E)
     . exact .inr E
   . rintro g (E|⟨k,row,I,E⟩)
     . exact F.fz_lt g E
     . exact(F.rows k row I).block_lt E
   . refine⟨Sg.le_trans J.le (S'.le_froze H'),fun k I=>.inl (J.fz k I),J.os,J.tape,J.output,J.size,J.same,?_⟩
     rintro g (E|⟨k,row,I,E⟩)
     . exact J.newro g E
     . exact .inr fun Z=>F.free k row I g E (J.fz g Z)
def merge(H H':aJ):aJ:=fun k=>match H' k with|some r=>some r|none=>H k
theorem RC.frame(h:RC P f args R)(hK:∀r H',R r H'->(∀k row,H' k=some row->H k=none)->∃aa,K r aa/\(∀k row,aa k=some row->merge H H' k=some row)/\∀k,H k=none->H' k=none->aa k=none):
   bA P f args H K:=by
 intro S w vals J ha
 let S0:Sg:={ S with fz:=fun k=>k<w.heap.size }
 have ao:S.le S0:=⟨fun _ h=>h,Nat.le_refl _,fun _ _=>rfl,fun _ _=>rfl⟩;have aq:St S0 w bS:=⟨fun k E=>J.fz_lt k (J.ro_fz k E),fun _ h=>h,fun k r E=>by simp[bS]at E,fun k r E=>by simp[bS]at E,fun k k' r r' E=>by simp[bS]at E,J.tabs⟩;refine(h S0 w vals aq (fun _ h=>h) (dQ ao (fR.refl S w) _ _ ha)).mono fun e w' ⟨v,x,H',S',he,hx,X,hv,hg,hn⟩=>?_
 have an:∀k row,H' k=some row->S.N<=k:=fun k row E=>by
   rcases Nat.lt_or_ge k S.N with af|ah
   . rw[hn k af rfl]at E;simp at E
   . exact ah
 have ai:∀k row,H' k=some row->H k=none:=fun k row E=>by
   cases hH:H k with
   | none=>rfl
   | some r=>have:=(J.rows k r hH).lt;have:=an k row E;omega
 obtain⟨aa,ar,au,ap⟩:=hK x H' hx ai
 let S'':Sg:={ S' with fz:=fun k=>S.fz k\/(S'.fz k/\w.heap.size<=k)\/S'.ro k }
 have ab:S'.le S'':=⟨fun _ h=>h,Nat.le_refl _,fun _ _=>rfl,fun _ _=>rfl⟩;have am:∀k,k<S.N->S'.loc k=S.loc k:=hg.le.loc;have ae:S.le S'':=⟨fun k E=>hg.le.ro k E,hg.le.N,hg.le.loc,hg.le.sz⟩;have Y:∀k,k<w.heap.size->w'.heap[k]?=w.heap[k]?:=hg.same;have aj:fR S w w':=fun k E=>Y k (J.fz_lt k (J.ro_fz k E))
 have ag:∀k r,H k=some r->RowOK S'' w' k r:=fun k r E=>(J.rows k r E).keep ae aj fun g F=>Y g ((J.rows k r E).block_lt F)
 have ad:∀k r,H' k=some r->RowOK S'' w' k r:=fun k r E=>(X.rows k r E).keep ab (fR.refl S' w') fun _ _=>rfl
 have O:∀k r,H k=some r->∀g,blk (S''.loc k)=some g->blk (S.loc k)=some g/\g<w.heap.size:=fun k r E g F=>by
   have h1:S''.loc k=S.loc k:=am k (J.rows k r E).lt;rw[h1]at F;exact⟨F,(J.rows k r E).block_lt F⟩
 have Z:∀k r,H' k=some r->∀g,blk (S''.loc k)=some g->¬S'.fz g/\w.heap.size<=g:=fun k r E g F=>by
   have h1:=X.free k r E g F;refine⟨h1,?_⟩;rcases Nat.lt_or_ge g w.heap.size with af|ah
   . exact absurd (hg.fz g af) h1
   . exact ah
 have I:∀k r,merge H H' k=some r->H' k=some r\/(H k=some r/\H' k=none):=fun k r E=>by
   unfold merge at E;cases h':H' k with
   | none=>rw[h']at E;exact .inr ⟨E,rfl⟩
   | some r'=>rw[h']at E;exact .inl E
 have hM:St S'' w' (merge H H'):=by
   refine⟨fun k E=>.inr (.inr E),?_,?_,?_,?_,X.tabs⟩
   . rintro k (E|E|E)
     . exact Nat.lt_of_lt_of_le (J.fz_lt k E) hg.size
     . exact X.fz_lt k E.1
     . exact X.fz_lt k (X.ro_fz k E)
   . intro k r E
     rcases I k r E with h'|⟨h',_⟩
     . exact ad k r h'
     . exact ag k r h'
   . intro k r E g F hf
     rcases I k r E with h'|⟨h',_⟩
     . obtain⟨e1,e2⟩:=Z k r h' g F
       rcases hf with hf|hf|hf
       . have:=J.fz_lt g hf;omega
       . exact e1 hf.1
       . exact e1 (X.ro_fz g hf)
     . obtain⟨e1,e2⟩:=O k r h' g F
       rcases hf with hf|hf|hf
       . exact J.free k r h' g e1 hf
       . omega
       . rcases hg.newro g hf with h2|h2
         . exact J.free k r h' g e1 (J.ro_fz g h2)
         . exact h2 e2
   . intro k k' r r' E ak al g F ac
     rcases I k r E with h1|⟨h1,_⟩
     . rcases I k' r' ak with h2|⟨h2,_⟩
       . exact X.disj k k' r r' h1 h2 al g F ac
       . have:=(Z k r h1 g F).2;have:=(O k' r' h2 g ac).2;omega
     . rcases I k' r' ak with h2|⟨h2,_⟩
       . have:=(O k r h1 g F).2;have:=(Z k' r' h2 g ac).2;omega
       . exact J.disj k k' r r' h1 h2 al g (O k r h1 g F).1 (O k' r' h2 g ac).1
 refine⟨v,x,aa,S'',he,ar,hM.drop au,lD ab (fR.refl S' w') _ _ hv,⟨ae,fun _ h=>.inl h,hg.os,hg.tape,hg.output,hg.size,fun k E=>Y k (J.fz_lt k E),fun k E=>(hg.newro k E).imp id (fun h2 h3=>h2 (J.fz_lt k h3))⟩,?_⟩
 . intro k E h0
   exact ap k h0 (hn k E rfl)
theorem PC.use{r:AV}(h:PC P f args r)(F:K r H):bA P f args H K:=
 RC.frame h fun x H' O I=>⟨H,O▸F,fun k row E=>by
   unfold merge;cases J:H' k with
   | none=>exact E
   | some r'=>rw[I k r' J]at E;simp at E,fun _ h _=>h⟩
theorem NC.use{row:Row}{I:Nat->AV}(h:NC P f args row I)(O:∀k,H k=none->K (I k) (aI H k (some row))):bA P f args H K:=
 RC.frame h fun x H' ⟨k,Y,F⟩ J=>⟨aI H k (some row),Y▸O k (J k row F),fun j r E=>by
   unfold merge;by_cases e:j=k
   . subst e;rw[aA]at E;rw[F];exact E
   . rw[aD _ _ _ _ e]at E
     cases X:H' j with
     | none=>exact E
     | some r'=>rw[J j r' X]at E;simp at E,fun j h0 h1=>by
   by_cases e:j=k
   . subst e;rw[F]at h1;simp at h1
   . rw[aD _ _ _ _ e];exact h0⟩
theorem BE.val{r:AV}(h:BE P f args H r):∃v,fv r=some v:=by
 obtain⟨_,_,_,E⟩:=h;exact Option.isSome_iff_exists.1 E
theorem BE.calls{r:AV}(h:BE P f args H r){v:Value}(hv:fv r=some v){S:Sg}{w:World}{vals:List Value}(X:St S w H)(ha:bC S w args vals):
   (∀S2 w2,rep S2 w2 r v)/\Calls P f vals.toArray w fun e w'=>e=.returned v/\w'.os=w.os/\w'.tape=w.tape/\w'.output=w.output/\w.heap.size<=w'.heap.size/\∀k,k<w.heap.size->w'.heap[k]?=w.heap[k]?:=by
 obtain⟨args',hc,hp,hf⟩:=h
 let S0:Sg:={ S.froze H with fz:=fun k=>k<w.heap.size }
 have J:(S.froze H).le S0:=⟨fun _ h=>h,Nat.le_refl _,fun _ _=>rfl,fun _ _=>rfl⟩;have Z:St S0 w bS:=⟨fun k I=>by
   rcases I with I|⟨j,r,hj,O⟩
   . exact X.fz_lt k (X.ro_fz k I)
   . exact(X.rows j r hj).block_lt O,fun _ h=>h,fun k r I=>by simp[bS]at I,fun k r I=>by simp[bS]at I,fun k k' r r' I=>by simp[bS]at I,(X.tabs.keep (S.le_froze H) (fR.refl S w)).keep J (fR.refl _ w)⟩
 have E:=hp S0 w vals Z (fun _ h=>h) (dQ J (fR.refl _ w) _ _ (hc.rep X ha));refine⟨fun S2 w2=>?_,E.mono fun e w' ⟨v',x,H',S',he,Y,aa,F,O,hn⟩=>?_⟩
 . obtain⟨e,w',fr,⟨v',x,H',S',he,Y,aa,F,_⟩,_⟩:=E []
   subst Y;have:=Sv hv F;subst this;exact Xn hv F
 . subst Y
   have:=Sv hv F;subst this;exact⟨he,O.os,O.tape,O.output,O.size,O.same⟩
theorem St.after{S:Sg}{w w':World}(E:St S w H)(J:w.heap.size<=w'.heap.size)(I:∀k,k<w.heap.size->w'.heap[k]?=w.heap[k]?):St S w' H:=
 ⟨E.ro_fz,fun k h=>Nat.lt_of_lt_of_le (E.fz_lt k h) J,fun k r h=>(E.rows k r h).keep S.le_refl (fun j F=>I j (E.fz_lt j (E.ro_fz j F))) fun g O=>I g ((E.rows k r h).block_lt O),E.free,E.disj,E.tabs.keep S.le_refl (fun j F=>I j (E.fz_lt j (E.ro_fz j F)))⟩
theorem St.grow{S:Sg}{w w':World}(I:St S w H)(O:w'.os=w.os)(J:w'.tape=w.tape)(F:w'.output=w.output)(E:w.heap.size<=w'.heap.size)(X:∀k,k<w.heap.size->w'.heap[k]?=w.heap[k]?):Grow S w S w':=
 ⟨S.le_refl,fun _ h=>h,O,J,F,E,fun k h=>X k (I.fz_lt k h),fun _ h=>.inl h⟩
theorem BE.use{r:AV}(h:BE P f args H r)(X:K r H):bA P f args H K:=by
 intro S w vals E ha;obtain⟨v,F⟩:=h.val;obtain⟨O,hc⟩:=h.calls F E ha;refine hc.mono fun e w' ⟨he,ho,Y,Z,I,J⟩=>⟨v,r,H,S,he,X,E.after I J,?_,E.grow ho Y Z I J,fM.refl _ _⟩
 exact O S w'
end
end Go.Aw
end
section
namespace Go.Aw
open Go.RowKit
def Rel(n:Nat)(S0:Sg)(w0:World)(H0:aJ)(ρ:Env)(H:aJ)(a:Act)(w:World):Prop:=
 ∃S,St S w H/\FR S w ρ a/\Grow S0 w0 S w/\fM S0.N H0 H/\a.defers=[]/\a.tmps.size=n
def alJ(n:Nat):Option Nat->Bool
 | some d=>decide (d<n)
 | none=>true
def kJ(n:Nat)(o:Oper):Bool:=o.op.operands.all (opB n)&&alJ n o.dst
section
variable{P:Program}{n:Nat}{S0:Sg}{w0:World}{H0:aJ}{mt:Nat->Bool}{ops:Array Oper}
theorem wT{o:Oper}(h:kJ n o=true):(∀x∈o.op.operands,opB n x=true)/\alJ n o.dst=true:=by
 simp only[kJ,Bool.and_eq_true]at h;exact⟨fun x E=>Array.all_eq_true_iff_forall_mem.1 h.1 x E,h.2⟩
theorem vN(a:Act)(d:Option Nat)(v:Value):(a.put d v).tmps.size=a.tmps.size:=by cases d <;> simp[Act.put]
theorem nQ(a:Act)(d:Option Nat)(v:Value):(a.put d v).defers=a.defers:=by cases d <;> simp[Act.put]
theorem xJ{S:Sg}{w:World}{ρ:Env}{a:Act}{o:Oper}{K:Option Bool->Prop}(O:∀o∈ops,kJ n o=true)(hF:FR S w ρ a)(hn:a.tmps.size=n)(h:cG ops ρ o.guard K):
   ∃G,K G/\(Region.wanted o (yielded ops a.tmps)=true↔gt G):=by
 unfold cG at h;unfold Region.wanted;cases hg:o.guard with
 | none=>
   rw[hg]at h;exact⟨none,h,by simp[gt]⟩
 | some jw=>
   obtain⟨j,E⟩:=jw;rw[hg]at h;simp only at h;cases J:(ops[j]?).bind (·.dst)with
   | none=>rw[J]at h;exact h.elim
   | some t=>
     rw[J]at h;simp only at h;have X:t<a.tmps.size:=by
       cases Y:ops[j]? with
       | none=>simp[Y]at J
       | some oj=>
         simp[Y]at J;have:=(wT (O oj (Array.mem_of_getElem? Y))).2;rw[J]at this;simpa[alJ,hn]using this
     have F:yielded ops a.tmps j=match a.tmps.getD t undef with| .bool b=>some b|_=>none:=by
       unfold yielded;rw[J];have e:a.tmps.getD t undef=a.tmps[t]:=by simp[Array.getD,X]
       rw[e];simp only[Option.bind_some,Array.getElem?_eq_getElem X];cases a.tmps[t] <;> rfl
     have I:=hF t X;split at h
     . rename_i b Z
       rw[Z]at I;simp only[rep]at I;rw[I]at F;refine⟨_,h,?_⟩;simp only[F,gt];cases b <;> cases E <;> simp
     . rename_i g b Z
       rw[Z]at I;simp only[rep]at I;refine⟨_,h,?_⟩;cases g with
       | true=>
         rw[I.1 rfl]at F;simp only[F,gt];cases b <;> cases E <;> simp
       | false=>
         rw[I.2 rfl]at F;simp[undef]at F;simp[F,gt]
     . exact h.elim
theorem fB{S:Sg}{w:World}{G:Option Bool}{z:AV}(h:¬gt G):rep S w (wr G z) undef:=by
 cases G with
 | none=>exact absurd trivial h
 | some b=>
   have:b=false:=by simpa[gt]using h
   subst this;simp[wr,rep]
theorem fT{S:Sg}{w:World}{G:Option Bool}{z:AV}{v:Value}(h:gt G)(E:rep S w z v):rep S w (wr G z) v:=by
 cases G with
 | none=>exact E
 | some b=>
   have:b=true:=h;subst this;simpa[wr,rep]using E
end
section
variable{P:Program}{n:Nat}{S0:Sg}{w0:World}{H0:aJ}{mt:Nat->Bool}{ops:Array Oper}{K:Env->aJ->Prop}{K':Act->World->Prop}{Q':Exit->Act->World->Prop}{ρ:Env}{H:aJ}{a:Act}{w:World}{o:Oper}{S:Sg}
def xU(P:Program)(ops:Array Oper)(o:Oper)(a:Act)(w:World)(K':Act->World->Prop)(Q':Exit->Act->World->Prop):Prop:=
 (Region.wanted o (yielded ops a.tmps)=true->o.wp P a w K' Q')/\(Region.wanted o (yielded ops a.tmps)=false->K' (a.put o.dst undef) w)
theorem fA{v:Value}{w':World}(h:(execOp a.eval o).run P w=.ok (.value v) w')(E:K' (a.put o.dst v) w'):o.wp P a w K' Q':=by
 unfold Oper.wp;rw[h];exact E
theorem Rel.step(hS:St S w H)(Z:FR S w ρ a)(J:Grow S0 w0 S w)(X:fM S0.N H0 H)(Y:a.defers=[])(hn:a.tmps.size=n){S':Sg}{w':World}{H':aJ}{z:AV}{v:Value}{d:Option Nat}
   (F:St S' w' H') (E:Grow S w S' w') (I:fM S.N H H') (O:rep S' w' z v):Rel n S0 w0 H0 (upd ρ d z) H' (a.put d v) w':=
 ⟨S',F,FR.put (Z.keep E.le (E.kept hS)) O,J.trans E,X.trans I J.le.N,by rw[nQ];exact Y,by rw[vN];exact hn⟩
theorem sD(I:St S w H)(X:FR S w ρ a)(hG:Grow S0 w0 S w)(hN:fM S0.N H0 H)(hd:a.defers=[])(Y:a.tmps.size=n)(hb:∀x∈o.op.operands,opB n x=true){G:Option Bool}
   (F:Region.wanted o (yielded ops a.tmps)=true↔gt G) (Z:∀J H' a' w',K J H'->Rel n S0 w0 H0 J H' a' w'->K' a' w') (h:iA P G ρ H o.op fun x=>K (upd ρ o.dst (wr G x)) H):
   xU P ops o a w K' Q':=by
 obtain⟨z,hz,hg⟩:=DI (Y▸hb) X I.rows h;refine⟨fun O=>?_,fun O=>?_⟩
 . have E:=F.1 O
   obtain⟨v,hv,hr⟩:=hg E;exact fA (hr w (Agree.refl S H w) o rfl) (Z _ _ _ _ hz (Rel.step I X hG hN hd Y I (Grow.refl S w) (fM.refl _ _) (fT E hv)))
 . have E:¬gt G:=fun h=>by rw[F.2 h]at O;simp at O
   exact Z _ _ _ _ hz (Rel.step I X hG hN hd Y I (Grow.refl S w) (fM.refl _ _) (fB E))
theorem oV(F:St S w H){r:Option Row}:fM S.N H (aI H S.N r):=fun k E h=>by rw[aD _ _ _ _ (Nat.ne_of_lt E)];exact h
theorem aeU(t:TypeId)(v:Value)(w:World):(Instr.box t v).run P w=.ok (.pointer (some ⟨w.heap.size,0,none⟩)) (w.alloc (.cells v.cells t)):=by
 simp[Instr.box,newVar,newRow]
theorem WD{t:TypeId}{z:List AV}(h:dR P t=some z)(F:Value)(w:World):∃(v:Value) (i:TypeInfo),P.info? t=some i/\z=v.cells.toList.map qV/\(∀u∈v.cells.toList,u.oneCell'=true)/\v.cells.size≠0 /\
   (Instr.alloc t true F).run P w=.ok (.pointer (some ⟨w.heap.size,0,none⟩)) (w.alloc (.cells v.cells t)):=by
 obtain⟨i,v,hi,O,J,I,E,h1⟩:=nS h;refine⟨v,i,hi,J,h1,by rw[I];exact E,?_⟩;simp[Instr.alloc,zeroValue,typeInfo,hi,O,newVar,newRow]
theorem CN(J:St S w H){t:TypeId}{cs:List AV}{l:List Value}(E:0<cs.length)(I:bC S w cs l)(h1:∀u∈l,u.oneCell'=true):
   ∃S',St S' (w.alloc (.cells l.toArray t)) (aI H S.N (some ⟨t,cs.length,[cs]⟩))/\Grow S w S' (w.alloc (.cells l.toArray t))/\rep S' (w.alloc (.cells l.toArray t)) (.op S.N 0 0) (.pointer (some ⟨w.heap.size,0,none⟩)):=by
 have F:=iD _ _ I;have:=J.newRow (e:=t) (sz:=cs.length) (cap:=1) (es:=[cs]) (xs:=l) (cur:=l.toArray) E (by simp) (by simpa using I) h1 (by simp) (by simp[maxLen]) (by simp[F]) (by simp[<-F]) (w':=w.alloc (.cells l.toArray t)) rfl rfl rfl rfl;refine⟨_,this.1,this.2,?_⟩;simp only[rep,Sg.addRow];exact⟨Nat.lt_succ_self _,w.heap.size,1,1,by simp,by simp⟩
theorem GB:∀(i n:Nat),KE i n=List.range' i n
 | _,0=>rfl
 | i,n+1=>by simp[KE,List.range'_succ,GB (i+1) n]
theorem HZ{sz n:Nat}:∀(l:List (Nat×List AV)) (vs:List (Nat×Value)) (i:Nat) (A:Array Value),l.map (·.1)=KE i l.length->cZ sz (l.map (·.2))->l.length=vs.length ->
   (∀(j k:Nat) (c:List AV),l[j]?=some (k,c)->∃(v:Value) (l':List Value),vs[j]?=some (k,v)/\v.cells=List.toArray l'/\bC S w c l'/\∀u∈l',u.oneCell'=true)->A.size=n*sz->i+l.length=n ->
   ∃xs:List Value,Instr.fill (fun i=>some (i*sz,sz)) A vs=some (A.toList.take (i*sz)++xs).toArray/\bC S w (l.map (·.2)).flatten xs/\∀u∈xs,u.oneCell'=true
 | [],vs,i,A,_,_,hl,_,hA,hi=>by
   have:vs=[]:=List.eq_nil_of_length_eq_zero (by simpa using hl.symm);subst this;refine⟨[],?_,by simp[bC],by simp⟩;simp only[Instr.fill,List.append_nil];have:i=n:=by simpa using hi
   subst this;rw[List.take_of_length_le (by simp[hA])]
 | (k,c)::rest,vs,i,A,E,hlen,hl,hv,hA,hi=>by
   simp only[List.map_cons,List.length_cons,KE,List.cons.injEq]at E;obtain⟨rfl,E⟩:=E;simp only[List.map_cons,cZ]at hlen;obtain⟨v,l',O,e2,X,e4⟩:=hv 0 k c (by simp);cases vs with
   | nil=>simp at O
   | cons q vs=>
     simp at O;subst O;have F:l'.length=sz:=by rw[iD _ _ X];exact hlen.1
     simp only[List.length_cons]at hi;have hm:(k+1)*sz<=n*sz:=Nat.mul_le_mul_right _ (by omega);rw[Nat.add_mul,Nat.one_mul]at hm;have Y:=Dg l' 0 A (k*sz) (by rw[F,hA];omega);simp only[Nat.add_zero]at Y;obtain⟨xs,f1,Z,f3⟩:=HZ (n:=n) rest vs (k+1) (A.toList.take (k*sz)++l'++A.toList.drop (k*sz+l'.length)).toArray E hlen.2 (by simpa using hl) (fun j i c hj=>by simpa using hv (j+1) i c (by simpa using hj))
       (by simp only[List.size_toArray,List.length_append,List.length_take,List.length_drop,Array.length_toList,F,hA];omega) (by omega)
     refine⟨l'++xs,?_,?_,?_⟩
     . simp only[Instr.fill,e2,List.size_toArray,F]
       rw[if_neg (by simp[hA];omega)];have I:(Array.foldl (fun cs (x:Value×Nat)=>cs.setIfInBounds (k*sz+x.2) x.1) A l'.toArray.zipIdx)=(A.toList.take (k*sz)++l'++A.toList.drop (k*sz+l'.length)).toArray:=by
         rw[<-Y,<-Array.foldl_toList];simp
       rw[I,f1]
       congr 2
       have e5:List.take ((k+1)*sz) (A.toList.take (k*sz)++l'++A.toList.drop (k*sz+l'.length))=A.toList.take (k*sz)++l':=by
         rw[Nat.add_mul,Nat.one_mul,List.take_append_of_le_length (by rw[List.length_append,List.length_take,Array.length_toList,F,hA];omega),List.take_of_length_le (by rw[List.length_append,List.length_take,Array.length_toList,F,hA];omega)]
       rw[e5,List.append_assoc]
     . simp only[List.map_cons,List.flatten_cons]
       exact dJ _ _ _ _ X Z
     . intro u J
       rcases List.mem_append.1 J with J|J
       . exact e4 u J
       . exact f3 u J
theorem Fd{t e:TypeId}{sz X:Nat}(he:bY P t=some (e,sz,X)){l:List (Nat×List AV)}{E:Array (Nat×Value)}{m:Nat}(O:l.map (·.1)=KE 0 m)(J:cZ sz (l.map (·.2)))(hl:l.length=E.toList.length)
   (hv:∀(j k:Nat) (c:List AV),l[j]?=some (k,c)->∃(v:Value) (l':List Value),E.toList[j]?=some (k,v)/\v.cells=List.toArray l'/\bC S w c l'/\∀u∈l',u.oneCell'=true) (hm:m*sz<=16777216):
   ∃xs:List Value,(Instr.buildSlice t m E).run P w=.ok (.slice (some ⟨w.heap.size,0,none⟩) m m) (w.alloc (.cells xs.toArray e))/\bC S w (l.map (·.2)).flatten xs/\(∀u∈xs,u.oneCell'=true)/\l.length=m/\xs.length=m*sz:=by
 obtain⟨I,z,hu,hi,rfl,_,ad,_,hz,ae⟩:=jG he;have Y:l.length=m:=by
   have:=congrArg List.length O;simpa[GB]using this
 have F:∀xs:List Value,bC S w (l.map (·.2)).flatten xs->xs.length=m*I.size:=fun xs h=>by
   rw[iD _ _ h,oO _ (jJ.1 J),List.length_map,Y]
 subst Y;obtain⟨xs,f1,f2,f3⟩:=HZ (n:=l.length) l E.toList 0 ((Array.range (l.length*I.size)).map (z.cells[·%z.cells.size]!)) O J hl hv (by simp) (by simp);simp only[Nat.zero_mul,List.take_zero,List.nil_append]at f1;refine⟨xs,?_,f2,f3,rfl,F xs f2⟩;have ab:¬l.length*I.size>2^24:=by simpa using hm
 by_cases h0:l.length*I.size=0
 . have Z : l.length = 0 := by
     rcases Nat.mul_eq_zero.1 h0 with h|h
     . exact h
     . omega
   have ac:E.toList=[]:=List.eq_nil_of_length_eq_zero (by rw[<-hl,Z]);have aa:xs=[]:=List.eq_nil_of_length_eq_zero (by rw[F xs f2,h0]);subst aa;simp[Instr.buildSlice,run_underlying hu,sizeOf,typeInfo,hi,h0,ac,Instr.fill,newRow,Z];have:(Array.range 0).map (fun _=>(default:Value))=#[]:=Array.eq_empty_of_size_eq_zero (by simp);rw[this]
 . simp[Instr.buildSlice,run_underlying hu,sizeOf,typeInfo,hi,ab,h0,zeroValue,hz,newRow]
   rw[f1];simp
end
end Go.Aw
end
