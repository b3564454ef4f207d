import Derived.ArgAppend
import Derived.Deep.LoopGhost
import Derived.Test.YtohmomanmikphaaGreatDoorPa02
set_option linter.unusedSimpArgs false
set_option linter.unusedVariables false
set_option maxRecDepth 100000
section
namespace Go.Aw
open Go.RowKit
def tH(w:World)(g:Nat):Option (Array Value):=match w.heap[g]? with
 | some (.cells cs _ _)=>some cs
 | _=>none
def Md(S:Sg)(w:World):Prop:=∀t∈XN,S.ro t.1/\tH w t.1=some t.2
theorem Md.keep{S S':Sg}{w w':World}(h:Md S w)(E:S.le S')(I:gE S w w'):Md S' w':=fun t F=>
 ⟨E.ro _ (h t F).1,by unfold tH;rw[I t.1 (h t F).1];exact(h t F).2⟩
structure St(S:Sg)(w:World)(H:aK):Prop where
 ro_fz:∀k,S.ro k->S.fz k
 fz_lt:∀k,S.fz k->k<w.heap.size
 rows:AK S w H
 free:∀k r,H k=some r->∀g,blk (S.loc k)=some g->¬S.fz g
 disj:∀k k' r r',H k=some r->H k'=some r'->k≠k'->∀g,blk (S.loc k)=some g->blk (S.loc k')≠some g
 tabs:Md S w
structure Grow(S:Sg)(w:World)(S':Sg)(w':World):Prop where
 le:S.le S'
 fz:∀k,S.fz k->S'.fz k
 os:w'.os=w.os
 tape:w'.tape=w.tape
 output:w'.output=w.output
 size:w.heap.size<=w'.heap.size
 same:∀k,S.fz k->w'.heap[k]?=w.heap[k]?
 newro:∀k,S'.ro k->S.ro k\/¬S.fz k
theorem Grow.refl(S:Sg)(w:World):Grow S w S w:=⟨S.le_refl,fun _ h=>h,rfl,rfl,rfl,Nat.le_refl _,fun _ _=>rfl,fun _ h=>.inl h⟩
theorem Grow.trans{S S' J:Sg}{w w' I:World}(h:Grow S w S' w')(E:Grow S' w' J I):Grow S w J I:=
 ⟨Sg.le_trans h.le E.le,fun k F=>E.fz k (h.fz k F),E.os.trans h.os,E.tape.trans h.tape,E.output.trans h.output,Nat.le_trans h.size E.size,
   fun k F=>(E.same k (h.fz k F)).trans (h.same k F),
   fun k F=>by rcases E.newro k F with h1|h1;exact h.newro k h1;exact .inr fun O=>h1 (h.fz k O)⟩
def fS(N:Nat)(H H':aK):Prop:=∀k,k<N->H k=none->H' k=none
theorem fS.refl(N:Nat)(H:aK):fS N H H:=fun _ _ h=>h
theorem fS.trans{N F:Nat}{H H' E:aK}(h:fS N H H')(J:fS F H' E)(O:N<=F):fS N H E:=fun k I h0=>J k (Nat.lt_of_lt_of_le I O) (h k I h0)
section
variable{S S':Sg}{w w':World}{H H':aK}
theorem St.kept(F:St S w H)(E:∀k,S.fz k->w'.heap[k]?=w.heap[k]?):gE S w w':=fun k I=>E k (F.ro_fz k I)
theorem Grow.kept(E:St S w H)(F:Grow S w S' w'):gE S w w':=E.kept F.same
theorem St.fresh(E:St S w H):H S.N=none:=by
 cases h:H S.N with
 | none=>rfl
 | some r=>exact absurd (E.rows _ r h).lt (Nat.lt_irrefl _)
theorem RowOK.block_lt{k:Nat}{r:Row}(h:RowOK S w k r){g:Nat}(E:blk (S.loc k)=some g):g<w.heap.size:=by
 rcases h.own with⟨xs,F,_⟩|⟨O,J,h1,I,_⟩
 . refine(F.lt g ?_).2
   rcases F.2 with⟨hv,_⟩|⟨_,_,_,hv,_⟩ <;> (rw[hv]at E |-;exact E)
 . rw[h1]at E
   injection E with E;subst E;exact(Array.getElem?_eq_some_iff.1 I).1
theorem DX(E:S.le S')(F:gE S w w'):∀(i:Nat) (es:List (List AV)) (ms:List MapEntry),lK S w i es ms->lK S' w' i es ms
 | _,[],_,h=>h
 | i,cs::r,ms,h=>by
   simp only[lK]at h |-;obtain⟨m,t,rfl,h1,I,J⟩:=h;exact⟨m,t,rfl,h1,dW E F _ _ I,DX E F (i+1) r t J⟩
theorem RowOK.keep{k:Nat}{r:Row}(h:RowOK S w k r)(E:S.le S')(O:gE S w w')(J:∀g,blk (S.loc k)=some g->w'.heap[g]?=w.heap[g]?):RowOK S' w' k r:=by
 refine⟨Nat.lt_of_lt_of_le h.lt E.N,by rw[E.sz k h.lt];exact h.sz,h.pos,h.len,?_⟩;rcases h.own with⟨xs,V,hr,h1⟩|⟨g,X,h1,I,F⟩
 . refine .inl ?_
   unfold MK;rw[E.loc k h.lt];refine⟨xs,⟨V.1,?_⟩,dW E O _ _ hr,h1⟩;rcases V.2 with I|⟨g,cap,cur,U,F,Z,Y⟩
   . exact .inl I
   . exact .inr ⟨g,cap,cur,U,F,by rw[J g (by rw[U];rfl)];exact Z,Y⟩
 . refine .inr ⟨g,X,?_,?_,DX E O 0 _ _ F.1,F.2⟩
   . rw[E.loc k h.lt];exact h1
   . rw[J g (by rw[h1];rfl)];exact I
theorem FR.keep{ρ:Env}{a:Act}(h:FR S w ρ a)(E:S.le S')(I:gE S w w'):FR S' w' ρ a:=fun t F=>lI E I _ _ (h t F)
theorem FR.put{ρ:Env}{a:Act}(h:FR S w ρ a){d:Option Nat}{z:AV}{v:Value}(J:rep S w z v):FR S w (upd ρ d z) (a.put d v):=by
 intro t F;cases d with
 | none=>exact h t F
 | some d=>
   simp only[Act.put,upd]at F |-;have E:t<a.tmps.size:=by simpa using F
   by_cases e:t=d
   . subst e
     simpa[Array.getD,E]using J
   . have h1:=h t E
     have I:d≠t:=fun h=>e h.symm
     simp only[if_neg e];have:(a.tmps.setIfInBounds d v).getD t undef=a.tmps.getD t undef:=by
       simp[Array.getD_eq_getD_getElem?,Array.getElem?_setIfInBounds,I]
     rw[this];exact h1
def Sg.addRow(S:Sg)(v:Value)(sz:Nat):Sg:={ S with loc:=fun k=>if k=S.N then v else S.loc k,sz:=fun k=>if k=S.N then sz else S.sz k,N:=S.N+1 }
theorem Sg.le_addRow(S:Sg)(v:Value)(sz:Nat):S.le (S.addRow v sz):=
 ⟨fun _ h=>h,Nat.le_succ _,fun k E=>by simp[Sg.addRow,Nat.ne_of_lt E],fun k E=>by simp[Sg.addRow,Nat.ne_of_lt E]⟩
theorem oP{k:Nat}{r:Option Row}:aI H k r k=r:=aA H k r
theorem St.newRow(O:St S w H){e:TypeId}{sz cap:Nat}{es:List (List AV)}{xs:List Value}{cur:Array Value}(ak:0<sz)(ac:∀cs∈es,cs.length=sz)
   (hr:bG S w es.flatten xs) (h1:∀u∈xs,u.oneCell'=true) (hn:es.length<=cap) (ai:cap<=maxLen) (af:cur.size=cap*sz) (ae:cur.toList.take (es.length*sz)=xs) {w':World}
   (hw:w'.heap=w.heap.push (.cells cur e)) (am:w'.os=w.os) (ad:w'.tape=w.tape) (al:w'.output=w.output):
   St (S.addRow (.slice (some ⟨w.heap.size,0,none⟩) es.length cap) sz) w' (aI H S.N (some ⟨e,sz,es⟩))/\Grow S w (S.addRow (.slice (some ⟨w.heap.size,0,none⟩) es.length cap) sz) w':=by
 have X:∀k,k<w.heap.size->w'.heap[k]?=w.heap[k]?:=fun k F=>by rw[hw,Array.getElem?_push,if_neg (by omega)]
 have aj:w'.heap[w.heap.size]?=some (.cells cur e (0,0)):=by rw[hw];simp
 have an:w'.heap.size=w.heap.size+1:=by rw[hw];simp
 have ab:=S.le_addRow (.slice (some ⟨w.heap.size,0,none⟩) es.length cap) sz;have U:gE S w w':=fun k F=>X k (O.fz_lt k (O.ro_fz k F))
 have E:(S.addRow (.slice (some ⟨w.heap.size,0,none⟩) es.length cap) sz).loc S.N=.slice (some ⟨w.heap.size,0,none⟩) es.length cap:=by simp[Sg.addRow]
 have Y:∀k,k<S.N->(S.addRow (.slice (some ⟨w.heap.size,0,none⟩) es.length cap) sz).loc k=S.loc k:=ab.loc;have I:∀k r,k≠S.N->aI H S.N (some ⟨e,sz,es⟩) k=some r->H k=some r:=fun k r F h=>by rwa [aF _ _ _ _ F]at h
 refine⟨⟨O.ro_fz,fun k F=>by have:=O.fz_lt k F;omega,?_,?_,?_,O.tabs.keep ab U⟩,⟨ab,fun _ h=>h,am,ad,al,by omega,fun k F=>X k (O.fz_lt k F),fun _ h=>.inl h⟩⟩
 . intro k r F
   by_cases e0:k=S.N
   . subst e0
     rw[oP]at F;injection F with F;subst F;refine⟨Nat.lt_succ_self _,by simp[Sg.addRow],ak,ac,.inl ⟨xs,⟨?_,.inr ⟨w.heap.size,cap,cur,E,Nat.zero_le _,aj,hn,ai,af,ae⟩⟩,dW ab U _ _ hr,h1⟩⟩;rw[iC _ _ hr,pA es ac]
   . have J:=I k r e0 F
     exact(O.rows k r J).keep ab U fun g Z=>X g ((O.rows k r J).block_lt Z)
 . intro k r F g Z
   by_cases e0:k=S.N
   . subst e0
     rw[E]at Z;simp only[blk,Option.some.injEq]at Z;subst Z;exact fun h=>Nat.lt_irrefl _ (O.fz_lt _ h)
   . have J:=I k r e0 F
     rw[Y k (O.rows k r J).lt]at Z;exact O.free k r J g Z
 . intro k k' r r' F J ah g Z V
   by_cases e0:k=S.N
   . subst e0
     rw[E]at Z;simp only[blk,Option.some.injEq]at Z;subst Z;have aa:=I k' r' (Ne.symm ah) J;rw[Y k' (O.rows k' r' aa).lt]at V;exact Nat.lt_irrefl _ ((O.rows k' r' aa).block_lt V)
   . have aa:=I k r e0 F
     rw[Y k (O.rows k r aa).lt]at Z;by_cases e1:k'=S.N
     . subst e1
       rw[E]at V;simp only[blk,Option.some.injEq]at V;subst V;exact Nat.lt_irrefl _ ((O.rows k r aa).block_lt Z)
     . have ag:=I k' r' e1 J
       rw[Y k' (O.rows k' r' ag).lt]at V;exact O.disj k k' r r' aa ag ah g Z V
theorem St.newMap(O:St S w H){w':World}(hw:w'.heap=w.heap.push (.map #[] 0))(ag:w'.os=w.os)(ab:w'.tape=w.tape)(af:w'.output=w.output):
   St (S.addRow (.map (some w.heap.size)) 2) w' (aI H S.N (some ⟨0,2,[]⟩))/\Grow S w (S.addRow (.map (some w.heap.size)) 2) w':=by
 have V:∀k,k<w.heap.size->w'.heap[k]?=w.heap[k]?:=fun k F=>by rw[hw,Array.getElem?_push,if_neg (by omega)]
 have ac:w'.heap[w.heap.size]?=some (.map #[] 0):=by rw[hw];simp
 have ah:w'.heap.size=w.heap.size+1:=by rw[hw];simp
 have X:=S.le_addRow (.map (some w.heap.size)) 2;have aa:gE S w w':=fun k F=>V k (O.fz_lt k (O.ro_fz k F))
 have E:(S.addRow (.map (some w.heap.size)) 2).loc S.N=.map (some w.heap.size):=by simp[Sg.addRow]
 have I:∀k r,k≠S.N->aI H S.N (some ⟨0,2,[]⟩) k=some r->H k=some r:=fun k r F h=>by rwa [aF _ _ _ _ F]at h
 refine⟨⟨O.ro_fz,fun k F=>by have:=O.fz_lt k F;omega,?_,?_,?_,O.tabs.keep X aa⟩,⟨X,fun _ h=>h,ag,ab,af,by omega,fun k F=>V k (O.fz_lt k F),fun _ h=>.inl h⟩⟩
 . intro k r F
   by_cases e0:k=S.N
   . subst e0
     rw[oP]at F;injection F with F;subst F;exact⟨Nat.lt_succ_self _,by simp[Sg.addRow],by simp,by simp,.inr ⟨w.heap.size,[],E,ac,by simp[lK],rfl⟩⟩
   . have J:=I k r e0 F
     exact(O.rows k r J).keep X aa fun g Y=>V g ((O.rows k r J).block_lt Y)
 . intro k r F g Y
   by_cases e0:k=S.N
   . subst e0
     rw[E]at Y;simp only[blk,Option.some.injEq]at Y;subst Y;exact fun h=>Nat.lt_irrefl _ (O.fz_lt _ h)
   . have J:=I k r e0 F
     rw[X.loc k (O.rows k r J).lt]at Y;exact O.free k r J g Y
 . intro k k' r r' F J ae g Y U
   by_cases e0:k=S.N
   . subst e0
     rw[E]at Y;simp only[blk,Option.some.injEq]at Y;subst Y;have Z:=I k' r' (Ne.symm ae) J;rw[X.loc k' (O.rows k' r' Z).lt]at U;exact Nat.lt_irrefl _ ((O.rows k' r' Z).block_lt U)
   . have Z:=I k r e0 F
     rw[X.loc k (O.rows k r Z).lt]at Y;by_cases e1:k'=S.N
     . subst e1
       rw[E]at U;simp only[blk,Option.some.injEq]at U;subst U;exact Nat.lt_irrefl _ ((O.rows k r Z).block_lt Y)
     . have ad:=I k' r' e1 J
       rw[X.loc k' (O.rows k' r' ad).lt]at U;exact O.disj k k' r r' Z ad ae g Y U
theorem St.setMap(V:St S w H){k g:Nat}{r:Row}(hk:H k=some r)(hl:S.loc k=.map (some g)){F:List MapEntry}{es:List (List AV)}(he:lK S w 0 es F)(h2:r.sz=2)(ae:g<w.heap.size):
   St S { w with heap:=w.heap.setIfInBounds g (.map F.toArray F.length) } (aI H k (some { r with es:=es }))/\Grow S w S { w with heap:=w.heap.setIfInBounds g (.map F.toArray F.length) }:=by
 have hR:=V.rows k r hk;have ad:¬S.fz g:=V.free k r hk g (by rw[hl];rfl);have J:∀j,j≠g->(w.heap.setIfInBounds g (.map F.toArray F.length))[j]?=w.heap[j]?:=fun j E=>by rw[Array.getElem?_setIfInBounds,if_neg (Ne.symm E)]
 have ac:(w.heap.setIfInBounds g (.map F.toArray F.length))[g]?=some (.map F.toArray F.length):=by rw[Array.getElem?_setIfInBounds];simp[ae]
 have I:gE S w { w with heap:=w.heap.setIfInBounds g (.map F.toArray F.length) }:=fun j E=>J j (fun e=>ad (e▸V.ro_fz j E))
 have p:∀j r',aI H k (some { r with es:=es }) j=some r'->∃X,H j=some X:=fun j r' E=>by
   by_cases e:j=k
   . subst e;exact⟨r,hk⟩
   . rw[aF _ _ _ _ e]at E;exact⟨_,E⟩
 have aa:∀(i:Nat) (es:List (List AV)) (F:List MapEntry),lK S w i es F->∀cs∈es,cs.length=2:=by
   intro i es;induction es generalizing i with
   | nil=>simp
   | cons c es ih=>
     intro F h cs O;simp only[lK]at h;obtain⟨m,t,rfl,_,h4,h5⟩:=h;rcases List.mem_cons.1 O with rfl|O
     . have:=iC _ _ h4;simpa using this.symm
     . exact ih (i+1) t h5 cs O
 refine⟨⟨V.ro_fz,fun j E=>by simpa using V.fz_lt j E,?_,?_,?_,V.tabs.keep S.le_refl I⟩,⟨S.le_refl,fun _ h=>h,rfl,rfl,rfl,by simp,fun j E=>J j (fun e=>ad (e▸E)),fun _ h=>.inl h⟩⟩
 . intro j r' E
   by_cases e:j=k
   . subst e
     rw[oP]at E;injection E with E;subst E;exact⟨hR.lt,hR.sz,hR.pos,fun cs O=>(aa 0 es F he cs O).trans h2.symm,.inr ⟨g,F,hl,ac,DX S.le_refl I 0 _ _ he,h2⟩⟩
   . rw[aF _ _ _ _ e]at E
     exact(V.rows j r' E).keep S.le_refl I fun Z U=>J Z (fun e'=>V.disj j k r' r E hk e Z U (by rw[hl,e'];rfl))
 . intro j r' E Z U
   obtain⟨X,Y⟩:=p j r' E;exact V.free j X Y Z U
 . intro j j' r1 r2 E Y ab Z U af
   obtain⟨q1,ah⟩:=p j r1 E;obtain⟨q2,ag⟩:=p j' r2 Y;exact V.disj j j' q1 q2 ah ag ab Z U af
theorem St.nilRow(U:St S w H)(e:TypeId){sz:Nat}(Z:0<sz):
   St (S.addRow (.slice none 0 0) sz) w (aI H S.N (some ⟨e,sz,[]⟩))/\Grow S w (S.addRow (.slice none 0 0) sz) w:=by
 have I:=S.le_addRow (.slice none 0 0) sz;have E:(S.addRow (.slice none 0 0) sz).loc S.N=.slice none 0 0:=by simp[Sg.addRow]
 have F:∀k r,k≠S.N->aI H S.N (some ⟨e,sz,[]⟩) k=some r->H k=some r:=fun k r O h=>by rwa [aF _ _ _ _ O]at h
 refine⟨⟨U.ro_fz,U.fz_lt,?_,?_,?_,U.tabs.keep I (gE.refl S w)⟩,⟨I,fun _ h=>h,rfl,rfl,rfl,Nat.le_refl _,fun _ _=>rfl,fun _ h=>.inl h⟩⟩
 . intro k r O
   by_cases Y:k=S.N
   . subst Y
     rw[oP]at O;injection O with O;subst O;refine⟨Nat.lt_succ_self _,by simp[Sg.addRow],Z,by simp,.inl ⟨[],⟨by simp,.inl ⟨E,rfl⟩⟩,by simp[bG],by simp⟩⟩
   . have J:=F k r Y O
     exact(U.rows k r J).keep I (gE.refl S w) fun _ _=>rfl
 . intro k r O g X
   by_cases Y:k=S.N
   . subst Y
     rw[E]at X;simp[blk]at X
   . have J:=F k r Y O
     rw[I.loc k (U.rows k r J).lt]at X;exact U.free k r J g X
 . intro k k' r r' O J ac g X V
   by_cases Y:k=S.N
   . subst Y
     rw[E]at X;simp[blk]at X
   . have ab:=F k r Y O
     rw[I.loc k (U.rows k r ab).lt]at X;by_cases e1:k'=S.N
     . subst e1
       rw[E]at V;simp[blk]at V
     . have aa:=F k' r' e1 J
       rw[I.loc k' (U.rows k' r' aa).lt]at V;exact U.disj k k' r r' ab aa ac g X V
def Sg.addRo(S:Sg)(g:Nat):Sg:={ S with ro:=fun k=>S.ro k\/k=g,fz:=fun k=>S.fz k\/k=g }
theorem Sg.le_addRo(S:Sg)(g:Nat):S.le (S.addRo g):=⟨fun _ h=>.inl h,Nat.le_refl _,fun _ _=>rfl,fun _ _=>rfl⟩
theorem St.newRo(I:St S w H){o:Obj}{w':World}(hw:w'.heap=w.heap.push o)(Z:w'.os=w.os)(O:w'.tape=w.tape)(X:w'.output=w.output):
   St (S.addRo w.heap.size) w' H/\Grow S w (S.addRo w.heap.size) w':=by
 have F:∀k,k<w.heap.size->w'.heap[k]?=w.heap[k]?:=fun k E=>by rw[hw,Array.getElem?_push,if_neg (by omega)]
 have aa:w'.heap.size=w.heap.size+1:=by rw[hw];simp
 have U:=S.le_addRo w.heap.size;have J:gE S w w':=fun k E=>F k (I.fz_lt k (I.ro_fz k E))
 refine⟨⟨fun k E=>E.imp (I.ro_fz k) id,fun k E=>?_,fun k r E=>(I.rows k r E).keep U J fun g Y=>F g ((I.rows k r E).block_lt Y),fun k r E g Y V=>?_,I.disj,I.tabs.keep U J⟩,
   ⟨U,fun _ h=>.inl h,Z,O,X,by omega,fun k E=>F k (I.fz_lt k E),fun k E=>E.imp id (fun e V=>by have:=I.fz_lt k V;omega)⟩⟩
 . rcases E with E|E
   . have:=I.fz_lt k E;omega
   . omega
 . rcases V with V|V
   . exact I.free k r E g Y V
   . have:=(I.rows k r E).block_lt Y;omega
theorem RowOK.open{k:Nat}{r:Row}(h:RowOK S w k r){E:Option Addr}{U Z:Nat}(I:S.loc k=.slice E U Z)(F:r.es≠[]):∃g cap cur,S.loc k=.slice (some ⟨g,0,none⟩) r.es.length cap/\w.heap[g]?=some (.cells cur r.e (0,0))/\r.es.length<=cap/\cap<=maxLen/\cur.size=cap*r.sz /\
   bG S w r.es.flatten (cur.toList.take (r.es.length*r.sz))/\∀u∈cur.toList.take (r.es.length*r.sz),u.oneCell'=true:=by
 obtain⟨xs,ho,hr,h1⟩:=h.sl I;rcases ho.2 with⟨_,X⟩|⟨g,cap,cur,hv,_,J,h3,V,O,Y⟩
 . exact absurd (List.eq_nil_of_length_eq_zero X) F
 . subst Y
   exact⟨g,cap,cur,hv,J,h3,V,O,hr,h1⟩
theorem Ab:∀(es:List (List AV)) (i:Nat) (cs:List AV) {sz:Nat},(∀c∈es,c.length=sz)->i<es.length->cs.length=sz ->
   (es.set i cs).flatten=es.flatten.take (i*sz)++cs++es.flatten.drop (i*sz+sz)
 | [],_,_,_,_,h,_=>by simp at h
 | x::r,0,cs,sz,hl,_,E=>by
   have F:=hl x (by simp);simp[<-F]
 | x::r,i+1,cs,sz,hl,hi,E=>by
   have F:=hl x (by simp);have ih:=Ab r i cs (fun c E=>hl c (by simp[E])) (by simpa using hi) E;simp only[List.set_cons_succ,List.flatten_cons,ih];have I:(i+1)*sz=x.length+i*sz:=by rw[F,Nat.add_mul];omega
   rw[I,Nat.add_assoc,List.take_append,List.drop_append];simp[List.take_of_length_le,List.drop_eq_nil_of_le,Nat.add_assoc]
theorem St.store(O:St S w H){k:Nat}{r:Row}(hk:H k=some r){i f:Nat}{cs:List AV}{l:List Value}(hi:i<r.es.length)(hf:f+cs.length<=r.sz){am:Option Addr}{n0 c0:Nat}(aj:S.loc k=.slice am n0 c0)
   (hr:bG S w cs l) (h1:∀u∈l,u.oneCell'=true):
   ∃g n c w',S.loc k=.slice (some ⟨g,0,none⟩) n c/\(∀P:Program,(storeCells ⟨g,i*r.sz+f,none⟩ l).run P w=.ok () w') /\
     St S w' (aI H k (some { r with es:=r.es.set i (nH (r.es.getD i []) f cs) }))/\Grow S w S w':=by
 have V:=O.rows k r hk;have ap:r.es≠[]:=fun e=>by rw[e]at hi;simp at hi
 obtain⟨g,cap,cur,I,hg,ad,ak,ai,ac,aa⟩:=V.open aj ap;have ag:=iC _ _ hr;have af:(i+1)*r.sz<=r.es.length*r.sz:=Nat.mul_le_mul_right _ hi;have al:r.es.length*r.sz<=cap*r.sz:=Nat.mul_le_mul_right _ ad;rw[Nat.add_mul,Nat.one_mul]at af;have ab:∀P:Program,_:=fun P=>run_storeCells_at (P:=P) g (i*r.sz+f) r.e l 0 cur w hg (by rw[ag,ai];omega) h1
 simp only[Nat.add_zero]at ab;refine⟨g,_,cap,_,I,ab,?_,?_⟩
 . have U:∀j,j≠g->(w.setRow g (List.take (i*r.sz+f) cur.toList++l++List.drop (i*r.sz+f+l.length) cur.toList).toArray).heap[j]?=w.heap[j]?:=fun j E=>setRow_other w g j _ E
   have an:¬S.fz g:=O.free k r hk g (by rw[I];rfl);have F:gE S w (w.setRow g (List.take (i*r.sz+f) cur.toList++l++List.drop (i*r.sz+f+l.length) cur.toList).toArray):=fun j E=>U j (fun e=>an (e▸O.ro_fz j E))
   have Z:(r.es.getD i []).length=r.sz:=by
     simp only[List.getD,List.getElem?_eq_getElem hi,Option.getD_some];exact V.len _ (List.getElem_mem hi)
   have Y:(nH (r.es.getD i []) f cs).length=r.sz:=by
     simp only[nH,List.length_append,List.length_take,List.length_drop,Z];omega
   have e2 : List.take (r.es.length * r.sz) (List.take (i * r.sz + f) cur.toList ++ l ++ List.drop (i * r.sz + f + l.length) cur.toList) =
       (cur.toList.take (r.es.length*r.sz)).take (i*r.sz+f)++l++(cur.toList.take (r.es.length*r.sz)).drop (i*r.sz+f+l.length):=by
     rw[List.take_take,Nat.min_eq_left (by omega),List.drop_take];rw[List.take_append,List.take_append];simp only[List.length_append,List.length_take,Array.length_toList];rw[Nat.min_eq_left (by omega:i*r.sz+f<=cur.size)];rw[List.take_of_length_le (l:=List.take (i*r.sz+f) cur.toList) (by simp;omega),List.take_of_length_le (l:=l) (by omega)]
   refine⟨O.ro_fz,fun j E=>by simpa using O.fz_lt j E,?_,?_,?_,O.tabs.keep S.le_refl F⟩
   . intro j r' E
     by_cases e:j=k
     . subst e
       rw[oP]at E;injection E with E;subst E;refine⟨V.lt,V.sz,V.pos,?_,.inl ?_⟩
       . intro c hc
         rcases List.mem_or_eq_of_mem_set hc with hc|rfl
         . exact V.len c hc
         . exact Y
       . refine⟨(List.take (i*r.sz+f) cur.toList++l++List.drop (i*r.sz+f+l.length) cur.toList).take (r.es.length*r.sz),⟨?_,.inr ⟨g,cap,_,by simpa using I,Nat.zero_le _,setRow_heap w g cur _ _ _ hg,by simpa using ad,ak,?_,by simp⟩⟩,?_,?_⟩
         . simp only[List.length_set,List.length_take,List.length_append,List.length_drop,Array.length_toList]
           omega
         . simp only[List.size_toArray,List.length_append,List.length_take,List.length_drop,Array.length_toList]
           omega
         . have hx:=(dW (S.le_refl) F _ _ ac)
           have hy:=(dW (S.le_refl) F _ _ hr);have e1:(r.es.set i (nH (r.es.getD i []) f cs)).flatten=r.es.flatten.take (i*r.sz+f)++cs++r.es.flatten.drop (i*r.sz+f+l.length):=by
             rw[Ab r.es i _ V.len hi Y];have ao:r.es.flatten.length=r.es.length*r.sz:=pA _ V.len;have ae:r.es.getD i []=(r.es.flatten.drop (i*r.sz)).take r.sz:=by
               have h0:=Ab r.es i (r.es.getD i []) V.len hi Z;have hs:r.es.set i (r.es.getD i [])=r.es:=by
                 simp only[List.getD,List.getElem?_eq_getElem hi,Option.getD_some];exact List.set_getElem_self hi
               rw[hs]at h0;have h3:(r.es.flatten.drop (i*r.sz)).take r.sz=((r.es.flatten.take (i*r.sz)++r.es.getD i []++r.es.flatten.drop (i*r.sz+r.sz)).drop (i*r.sz)).take r.sz:=by rw[<-h0]
               rw[h3,List.append_assoc,List.drop_append_of_le_length (by rw[List.length_take];omega)];rw[List.drop_eq_nil_of_le (by rw[List.length_take];omega),List.nil_append,List.take_append_of_le_length (by omega),List.take_of_length_le (by omega)]
             rw[ae,nH];have a1:List.take (i*r.sz+f) r.es.flatten=r.es.flatten.take (i*r.sz)++((r.es.flatten.drop (i*r.sz)).take r.sz).take f:=by
               rw[List.take_take,Nat.min_eq_left (by omega),List.take_add]
             have a2:r.es.flatten.drop (i*r.sz+f+l.length)=((r.es.flatten.drop (i*r.sz)).take r.sz).drop (f+cs.length)++r.es.flatten.drop (i*r.sz+r.sz):=by
               rw[List.drop_take,List.drop_drop,<-ag,<-Nat.add_assoc];have:List.drop (i*r.sz+r.sz) r.es.flatten=(List.drop (i*r.sz+f+l.length) r.es.flatten).drop (r.sz-(f+l.length)):=by
                 rw[List.drop_drop];congr 1;omega
               rw[this,List.take_append_drop]
             rw[a1,a2];simp only[List.append_assoc]
           rw[e1];rw[e2];exact dO _ _ _ _ (dO _ _ _ _ (sY _ _ _ hx) hy) (xA _ _ _ hx)
         . intro u X
           rw[e2]at X;simp only[List.mem_append]at X;rcases X with(X|X)|X
           . exact aa u (List.mem_of_mem_take X)
           . exact h1 u X
           . exact aa u (List.mem_of_mem_drop X)
     . rw[aF _ _ _ _ e]at E
       exact(O.rows j r' E).keep S.le_refl F fun g' J=>U g' (fun e'=>O.disj j k r' r E hk e g' J (by rw[I,e'];rfl))
   . intro j r' E g' J
     by_cases e:j=k
     . subst e;exact O.free j r hk g' J
     . rw[aF _ _ _ _ e]at E;exact O.free j r' E g' J
   . intro j j' r1 r2 E av ah g' J ar
     have p:∀j r',aI H k (some { r with es:=r.es.set i (nH (r.es.getD i []) f cs) }) j=some r'->∃aq,H j=some aq:=fun j r' E=>by
       by_cases e:j=k
       . subst e;exact⟨r,hk⟩
       . rw[aF _ _ _ _ e]at E;exact⟨_,E⟩
     obtain⟨q1,aw⟩:=p j r1 E;obtain⟨q2,au⟩:=p j' r2 av;exact O.disj j j' q1 q2 aw au ah g' J ar
 . refine⟨S.le_refl,fun _ h=>h,rfl,rfl,rfl,by simp,fun j E=>setRow_other w g j _ (fun e=>O.free k r hk g (by rw[I];rfl) (e▸E)),fun _ h=>.inl h⟩
end
end Go.Aw
end
section
namespace Go.Aw
open Go.RowKit
section
variable{P:Program}{S S':Sg}{w w':World}{H H':aK}
def AH(S:Sg)(w:World)(u:Value)(news:List (List AV)):Prop:=
 ∃ad c l,u=.slice ad news.length c/\bG S w news.flatten l/\(∀x∈l,x.oneCell'=true) /\
   (news=[]\/∃b o,ad=some ⟨b,o,none⟩/\∀j x,l[j]?=some x->w.cell? ⟨b,o+j,none⟩=some x)
theorem Lc{es:List (List AV)}{u:Value}(h:rep S w (.sl es) u):AH S w u es:=by
 simp only[rep]at h;obtain⟨J,n,c,rfl,rfl,_,_,I⟩:=h;rcases I with rfl|⟨b,o,sz,rfl,V,X,E⟩
 . exact⟨J,c,[],rfl,by simp[bG],by simp,.inl rfl⟩
 . obtain⟨l,Y,U,F,O⟩:=mR _ _ (yA es o E)
   exact⟨_,c,l,rfl,U,F,.inr ⟨b,o,rfl,O⟩⟩
theorem Mj{k:Nat}{r:Row}(h:RowOK S w k r){Y:Option Addr}{U X:Nat}(O:S.loc k=.slice Y U X):AH S w (S.loc k) r.es:=by
 obtain⟨xs,I,J,h1⟩:=h.sl O;rcases I.2 with⟨E,F⟩|⟨g,cap,cur,E,_⟩
 . have V:=List.eq_nil_of_length_eq_zero F
   have hx:xs=[]:=List.eq_nil_of_length_eq_zero (by rw[I.1,F];simp);exact⟨none,0,xs,by rw[E,F],J,h1,.inl V⟩
 . refine⟨some ⟨g,0,none⟩,cap,xs,E,J,h1,.inr ⟨g,0,rfl,fun j x Z=>?_⟩⟩
   have:=I.cells (g:=g) (by rw[E];rfl) j x Z
   rwa [Addr.add_lit]at this
theorem Dx{k a b:Nat}{r:Row}{u:Value}(hk:RowOK S w k r)(hu:rep S w (.oz k a b) u):AH S w u ((r.es.take b).drop a)/\b<=r.es.length/\a<=b:=by
 simp only[rep]at hu;obtain⟨_,ad,n,c,Y,cc,E,rfl,Z,I,O,_⟩:=hu;obtain⟨xs,ho,hr,h1⟩:=hk.sl E;have hn:n=r.es.length:=by
   rcases ho.2 with⟨X,hn⟩|⟨g,cap,cur,X,_⟩
   . rw[E]at X;injection X with _ h2 _;omega
   . rw[E]at X;injection X
 subst hn;refine⟨?_,I,Z⟩;have F:((r.es.take b).drop a).length=b-a:=by simp;omega
 rcases Nat.lt_or_ge a b with ab|ac
 . obtain⟨g,rfl,rfl⟩:=O ab
   have aa:r.es≠[]:=fun e=>by rw[e]at I;simp at I;omega
   obtain⟨g',n',c',J,V,_⟩:=hk.els E aa;rw[E]at J;injection J with U _ _;injection U with U;injection U with U;subst U;have h2:=B8 _ 0 a (yT r.es 0 b V);rw[Nat.zero_add,hk.sz]at h2;obtain⟨l,q1,q2,q3,q4⟩:=mR _ _ (yA _ _ h2);exact⟨_,cc,l,by rw[F],q2,q3,.inr ⟨g,a*S.sz k,rfl,q4⟩⟩
 . have he:(r.es.take b).drop a=[]:=List.eq_nil_of_length_eq_zero (by omega)
   exact⟨Y,cc,[],by rw[F],by rw[he];simp[bG],by simp,.inl he⟩
theorem xV:∀(es:List (List AV)) (a:Nat) {sz:Nat},(∀c∈es,c.length=sz)->(es.take a).flatten=es.flatten.take (a*sz)
 | [],_,_,_=>by simp
 | x::r,0,_,_=>by simp
 | x::r,a+1,sz,hl=>by
   have E:=hl x (by simp);rw[List.take_succ_cons,List.flatten_cons,List.flatten_cons,xV r a (fun c F=>hl c (by simp[F])),Nat.add_mul,Nat.one_mul,List.take_append,E];rw[List.take_of_length_le (l:=x) (by omega)]
   congr 2
   omega
theorem CW:∀(es:List (List AV)) (a:Nat) {sz:Nat},(∀c∈es,c.length=sz)->(es.drop a).flatten=es.flatten.drop (a*sz)
 | [],_,_,_=>by simp
 | x::r,0,_,_=>by simp
 | x::r,a+1,sz,hl=>by
   have E:=hl x (by simp);rw[List.drop_succ_cons,List.flatten_cons,CW r a (fun c F=>hl c (by simp[F])),Nat.add_mul,Nat.one_mul,List.drop_append,E];rw[List.drop_eq_nil_of_le (as:=x) (by omega),List.nil_append]
   congr 1
   omega
theorem St.storeE(O:St S w H){k:Nat}{r:Row}(hk:H k=some r){a:Nat}{news:List (List AV)}{l:List Value}(Z:∀c∈news,c.length=r.sz)(ha:a+news.length<=r.es.length)(ab:r.es≠[]){ap:Option Addr}{n0 c0:Nat}(aj:S.loc k=.slice ap n0 c0)
   (hr:bG S w news.flatten l) (h1:∀u∈l,u.oneCell'=true):
   ∃g n c w',S.loc k=.slice (some ⟨g,0,none⟩) n c/\(∀P:Program,(storeCells ⟨g,a*r.sz,none⟩ l).run P w=.ok () w') /\
     St S w' (aI H k (some { r with es:=r.es.take a++news++r.es.drop (a+news.length) }))/\Grow S w S w':=by
 have hR:=O.rows k r hk;obtain⟨g,cap,cur,I,hg,ad,ak,ai,ah,aa⟩:=hR.open aj ab;have af:l.length=news.length*r.sz:=by rw[iC _ _ hr,pA news Z]
 have ae:(a+news.length)*r.sz<=r.es.length*r.sz:=Nat.mul_le_mul_right _ ha;have an:r.es.length*r.sz<=cap*r.sz:=Nat.mul_le_mul_right _ ad;rw[Nat.add_mul]at ae;have ac:∀P:Program,_:=fun P=>run_storeCells_at (P:=P) g (a*r.sz) r.e l 0 cur w hg (by rw[af,ai];omega) h1
 simp only[Nat.add_zero]at ac;refine⟨g,_,cap,_,I,ac,?_,?_⟩
 . have U:∀j,j≠g->(w.setRow g (List.take (a*r.sz) cur.toList++l++List.drop (a*r.sz+l.length) cur.toList).toArray).heap[j]?=w.heap[j]?:=fun j E=>setRow_other w g j _ E
   have ar:¬S.fz g:=O.free k r hk g (by rw[I];rfl);have F:gE S w (w.setRow g (List.take (a*r.sz) cur.toList++l++List.drop (a*r.sz+l.length) cur.toList).toArray):=fun j E=>U j (fun e=>ar (e▸O.ro_fz j E))
   have V:(r.es.take a++news++r.es.drop (a+news.length)).length=r.es.length:=by simp;omega
   have e2 : List.take (r.es.length * r.sz) (List.take (a * r.sz) cur.toList ++ l ++ List.drop (a * r.sz + l.length) cur.toList) =
       (cur.toList.take (r.es.length*r.sz)).take (a*r.sz)++l++(cur.toList.take (r.es.length*r.sz)).drop (a*r.sz+l.length):=by
     rw[List.take_take,Nat.min_eq_left (by omega),List.drop_take];rw[List.take_append,List.take_append];simp only[List.length_append,List.length_take,Array.length_toList];rw[Nat.min_eq_left (by omega:a*r.sz<=cur.size)];rw[List.take_of_length_le (l:=List.take (a*r.sz) cur.toList) (by simp;omega),List.take_of_length_le (l:=l) (by omega)]
   refine⟨O.ro_fz,fun j E=>by simpa using O.fz_lt j E,?_,?_,?_,O.tabs.keep S.le_refl F⟩
   . intro j r' E
     by_cases e:j=k
     . subst e
       rw[oP]at E;injection E with E;subst E;refine⟨hR.lt,hR.sz,hR.pos,?_,.inl ?_⟩
       . intro c Y
         rcases List.mem_append.1 Y with Y|Y
         . rcases List.mem_append.1 Y with Y|Y
           . exact hR.len c (List.mem_of_mem_take Y)
           . exact Z c Y
         . exact hR.len c (List.mem_of_mem_drop Y)
       . refine⟨(List.take (a*r.sz) cur.toList++l++List.drop (a*r.sz+l.length) cur.toList).take (r.es.length*r.sz),⟨?_,.inr ⟨g,cap,_,by rw[V];exact I,Nat.zero_le _,setRow_heap w g cur _ _ _ hg,by rw[V];exact ad,ak,?_,by rw[V]⟩⟩,?_,?_⟩
         . rw[V]
           simp only[List.length_take,List.length_append,List.length_drop,Array.length_toList];omega
         . simp only[List.size_toArray,List.length_append,List.length_take,List.length_drop,Array.length_toList]
           omega
         . have hx:=(dW (S.le_refl) F _ _ ah)
           have hy:=(dW (S.le_refl) F _ _ hr);have e1:(r.es.take a++news++r.es.drop (a+news.length)).flatten=r.es.flatten.take (a*r.sz)++news.flatten++r.es.flatten.drop (a*r.sz+l.length):=by
             rw[List.flatten_append,List.flatten_append,xV _ _ hR.len,CW _ _ hR.len,Nat.add_mul,af]
           rw[e1,e2];exact dO _ _ _ _ (dO _ _ _ _ (sY _ _ _ hx) hy) (xA _ _ _ hx)
         . intro u X
           rw[e2]at X;simp only[List.mem_append]at X;rcases X with(X|X)|X
           . exact aa u (List.mem_of_mem_take X)
           . exact h1 u X
           . exact aa u (List.mem_of_mem_drop X)
     . rw[aF _ _ _ _ e]at E
       exact(O.rows j r' E).keep S.le_refl F fun g' J=>U g' (fun e'=>O.disj j k r' r E hk e g' J (by rw[I,e'];rfl))
   . intro j r' E g' J
     by_cases e:j=k
     . subst e;exact O.free j r hk g' J
     . rw[aF _ _ _ _ e]at E;exact O.free j r' E g' J
   . intro j j' r1 r2 E aq ag g' J am
     have p:∀j r',aI H k (some { r with es:=r.es.take a++news++r.es.drop (a+news.length) }) j=some r'->∃al,H j=some al:=fun j r' E=>by
       by_cases e:j=k
       . subst e;exact⟨r,hk⟩
       . rw[aF _ _ _ _ e]at E;exact⟨_,E⟩
     obtain⟨q1,au⟩:=p j r1 E;obtain⟨q2,ao⟩:=p j' r2 aq;exact O.disj j j' q1 q2 au ao ag g' J am
 . refine⟨S.le_refl,fun _ h=>h,rfl,rfl,rfl,by simp,fun j E=>setRow_other w g j _ (fun e=>O.free k r hk g (by rw[I];rfl) (e▸E)),fun _ h=>.inl h⟩
theorem Vn{k:Nat}{r:Row}(E:H k=some r):aI H k (some r)=H:=by
 funext j;by_cases e:j=k
 . subst e;rw[aA,E]
 . rw[aF _ _ _ _ e]
theorem St.copy(hS:St S w H){k:Nat}{r:Row}(hk:H k=some r){t e sz U:Nat}{t' ty:TypeId}(he:cF P t=some (e,sz,U))(ah:r.sz=sz){a n:Nat}(aa:a+n<=r.es.length){x u:Value}{news:List (List AV)}(hu:AH S w u news)(Y:cZ sz news)
   (hx:∃ad cc,x=.slice ad n cc/\(0<n->∃g n' c',S.loc k=.slice (some ⟨g,0,none⟩) n' c'/\ad=some ⟨g,a*r.sz,none⟩)):
   ∃w',(Builtin.copy_ #[t,t'] ty #[x,u]).run P w=.ok (goInt (min news.length n:Nat)) w'/\St S w' (aI H k (some { r with es:=r.es.take a++news.take (min news.length n)++r.es.drop (a+min news.length n) }))/\Grow S w S w':=by
 obtain⟨av,z,ab,hi,Z,au,aq,al,hz,ar⟩:=jD he;obtain⟨ad,cc,rfl,an⟩:=hx;obtain⟨sa,sc,l,rfl,hl,ag,I⟩:=hu;have E:=jC.1 Y;rcases Nat.eq_zero_or_pos (min news.length n)with h0|h0
 . refine⟨w,?_,?_,Grow.refl S w⟩
   . have ae:Nat.min news.length n=0:=h0
     have ao:∀a:Addr,(loadCells a 0).run P w=.ok #[] w:=fun a=>by simpa using run_loadCells_list (P:=P) w a [] (by simp)
     rw[h0];cases ad <;> cases sa <;> simp[Builtin.copy_,run_underlying ab,Builtin.lenOf,Builtin.firstCells,sizeOf,typeInfo,hi,ae,ao,storeCells]
   . rw[h0]
     have:({ r with es:=r.es.take a++news.take 0++r.es.drop (a+0) }:Row)=r:=by simp
     rw[this,Vn hk];exact hS
 . have ak:0<n:=by omega
   obtain⟨g,n',c',O,rfl⟩:=an ak;have V:r.es≠[]:=fun e=>by rw[e]at aa;simp at aa;omega
   have hm:(news.take (min news.length n)).length=min news.length n:=by simp
   have ai:(news.take (min news.length n)).flatten=news.flatten.take (min news.length n*sz):=xV _ _ E;have am:bG S w (news.take (min news.length n)).flatten (l.take (min news.length n*sz)):=by rw[ai];exact sY _ _ _ hl
   obtain⟨g',n2,c2,w',F,af,q1,q2⟩:=hS.storeE hk (a:=a) (news:=news.take (min news.length n)) (l:=l.take (min news.length n*sz)) (fun c hc=>by rw[ah];exact E c (List.mem_of_mem_take hc)) (by rw[hm];omega) V O am (fun u hu=>ag u (List.mem_of_mem_take hu));rw[O]at F;injection F with i1 _ _;injection i1 with i1;injection i1 with i1;subst i1;rw[hm]at q1;refine⟨w',?_,q1,q2⟩;rcases I with I|⟨b,o,rfl,J⟩
   . rw[I]at h0;simp at h0
   . have ap:l.length=news.length*sz:=by rw[iC _ _ hl,pA news E]
     have aj:(l.take (min news.length n*sz)).length=min news.length n*sz:=by
       rw[List.length_take,ap];exact Nat.min_eq_left (Nat.mul_le_mul_right _ (Nat.min_le_left _ _))
     have ac:=run_loadCells_list (P:=P) w ⟨b,o,none⟩ (l.take (min news.length n*sz)) (fun j v hj=>by
       rw[Addr.add_lit];refine J j v ?_;rw[List.getElem?_take]at hj;split at hj
       . exact hj
       . simp at hj)
     rw[aj]at ac;have X:Nat.min news.length n=min news.length n:=rfl;simp[Builtin.copy_,run_underlying ab,Builtin.lenOf,Builtin.firstCells,sizeOf,typeInfo,hi,Z,X,ac,af P]
theorem AI(z:Array Value)(E:0<z.size):∀m,(Builtin.zeroCells z m).toList=(List.replicate m z.toList).flatten
 | 0=>by simp[Builtin.zeroCells]
 | m+1=>by
   have ih:=AI z E m;rw[show List.replicate (m+1) z.toList=List.replicate m z.toList++[z.toList]from List.replicate_succ',List.flatten_append,<-ih];simp only[Builtin.zeroCells,Array.toList_map,Array.toList_range,Nat.add_mul,Nat.one_mul,List.flatten_cons,List.flatten_nil,List.append_nil];rw[List.range_add,List.map_append]
   congr 1
   apply List.ext_getElem
   . simp
   . intro i h1 F
     simp only[List.length_map,List.length_range]at h1;simp[Nat.add_comm (m*z.size),Nat.add_mul_mod_self_right,Nat.mod_eq_of_lt h1,h1]
theorem St.clear(hS:St S w H){k:Nat}{r:Row}(hk:H k=some r){t e sz O:Nat}{ty:TypeId}{zs:List AV}(he:cF P t=some (e,sz,O))(ac:dU P e=some zs)(aj:r.sz=sz){a n:Nat}(Z:a+n<=r.es.length){x:Value}
   (hx:∃ad cc,x=.slice ad n cc/\(0<n->∃g n' c',S.loc k=.slice (some ⟨g,0,none⟩) n' c'/\ad=some ⟨g,a*r.sz,none⟩)):
   ∃w',(Builtin.clear_ #[t] ty #[x]).run P w=.ok (.tuple #[]) w'/\St S w' (aI H k (some { r with es:=r.es.take a++List.replicate n zs++r.es.drop (a+n) }))/\Grow S w S w':=by
 obtain⟨am,z,V,hi,ah,ak,af,ae,hz,ag⟩:=jD he;obtain⟨i',v,I,F,rfl,al,ai,h1⟩:=oB ac;rw[hi]at I;injection I with I;subst I;rw[hz]at F;injection F with F;subst F;obtain⟨ad,cc,rfl,aa⟩:=hx;rcases Nat.eq_zero_or_pos n with h0|h0
 . subst h0
   refine⟨w,?_,?_,Grow.refl S w⟩
   . cases ad <;> simp[Builtin.clear_,run_underlying V]
   . have:({ r with es:=r.es.take a++List.replicate 0 (z.cells.toList.map rI)++r.es.drop (a+0) }:Row)=r:=by simp
     rw[this,Vn hk];exact hS
 . obtain⟨g,n',c',J,rfl⟩:=aa h0
   have U:r.es≠[]:=fun e=>by rw[e]at Z;simp at Z;omega
   have Y:∀m,bG S w (List.replicate m (z.cells.toList.map rI)).flatten (List.replicate m z.cells.toList).flatten:=by
     intro m;induction m with
     | zero=>simp[bG]
     | succ m ih=>simp only[List.replicate_succ,List.flatten_cons];exact dO _ _ _ _ (mS _) ih
   obtain⟨g',n2,c2,w',E,ab,q1,q2⟩:=hS.storeE hk (a:=a) (news:=List.replicate n (z.cells.toList.map rI)) (l:=(List.replicate n z.cells.toList).flatten) (fun c hc=>by rw[List.eq_of_mem_replicate hc];simp;omega) (by rw[List.length_replicate];omega) U J (Y n) (fun u hu=>by
     obtain⟨l,hl,hu⟩:=List.mem_flatten.1 hu;rw[List.eq_of_mem_replicate hl]at hu;exact h1 u hu)
   rw[J]at E;injection E with X _ _;injection X with X;injection X with X;subst X;rw[List.length_replicate]at q1;refine⟨w',?_,q1,q2⟩;obtain⟨m,rfl⟩:∃m,n=m+1:=⟨n-1,by omega⟩;simp[Builtin.clear_,run_underlying V,zeroValue,typeInfo,hi,hz,AI z.cells (by omega) (m+1),ab P]
theorem Dt{t ty e:TypeId}{i:TypeInfo}{size n c:Nat}{v:Value}{xs:List Value}(I:P.underlying t=some (.slice e))(hi:P.info? e=some i)(E:w.ownsRow 0 e size v n xs):
   (Builtin.append_ #[t,t] ty #[v,.slice none 0 c]).run P w=.ok v w:=by
 rcases E.2 with⟨rfl,rfl⟩|⟨g,cap,cur,rfl,_,_,F,_⟩
 . simp[Builtin.append_,run_underlying I,sizeOf,typeInfo,hi,Builtin.lenOf,Builtin.firstCells]
 . simp[Builtin.append_,run_underlying I,sizeOf,typeInfo,hi,Builtin.lenOf,Builtin.firstCells,F,storeCells]
theorem St.append(X:St S w H){k:Nat}{r:Row}(hk:H k=some r){az:Option Addr}{n0 c0:Nat}(ao:S.loc k=.slice az n0 c0){t ty:TypeId}{Y:Nat}(he:cF P t=some (r.e,r.sz,Y)){news:List (List AV)}{u:Value}(hu:AH S w u news)
   (aq:cZ r.sz news) (hb:(r.es.length+news.length)*Y<=140737488355328):
   ∃I w',(Builtin.append_ #[t,t] ty #[S.loc k,u]).run P w=.ok I w'/\(∃a n c,I=.slice a n c) /\
     St (S.addRow I r.sz) w' (aI (aI H k none) S.N (some ⟨r.e,r.sz,r.es++news⟩))/\Grow S w (S.addRow I r.sz) w':=by
 have hR:=X.rows k r hk;obtain⟨a6,z,au,hi,ax,a5,ai,ak,hz,a4⟩:=jD he;obtain⟨xs,ho,hr,h1⟩:=hR.sl ao;obtain⟨ad,c,l,rfl,hl,an,aj⟩:=hu;have ag:=jC.1 aq;have am:l.length=news.length*r.sz:=by rw[iC _ _ hl,pA news ag]
 have a7:r.es.length+news.length<=140737488355328:=Nat.le_trans (Nat.le_mul_of_pos_right _ ak) hb;have aw : ∃ I w', (Builtin.append_ #[t, t] ty #[S.loc k, .slice ad news.length c]).run P w = .ok I w' /\ w'.ownsRow 0 r.e r.sz I (r.es.length + news.length) (xs ++ l) /\ w.grownBy w' (blk (S.loc k)) /\
     (blk I=blk (S.loc k)\/blk I=some w.heap.size):=by
   cases ad with
   | none=>
     have hn:news=[]:=by
       rcases aj with h|⟨b,o,h,_⟩
       . exact h
       . simp at h
     subst hn;have al:l=[]:=List.eq_nil_of_length_eq_zero (by rw[am];simp);subst al;exact⟨S.loc k,w,Dt au hi ho,by simpa using ho,World.grownBy.refl w _,.inl rfl⟩
   | some a=>
     have ah:∀j x,l[j]?=some x->w.cell? (a.add j)=some x:=by
       rcases aj with h|⟨b,o,h,hc⟩
       . subst h
         have al:l=[]:=List.eq_nil_of_length_eq_zero (by rw[am];simp);subst al;simp
       . injection h with h
         subst h;intro j x F;rw[Addr.add_lit];exact hc j x F
     obtain⟨I,w',q1,q2,q3,_,q5⟩:=run_append_own_at (P:=P) w 0 t ty r.e a6 z r.sz Y au hi hz ax a5 a4 ai (S.loc k) r.es.length xs ho a news.length c l am ah an
       (by simp only[maxLen];omega) hb (Nat.zero_le _)
     have ar:blk (S.loc k)=(S.loc k).ownBlock:=by rw[ao];exact aoV _ _ _
     have ay:blk I=I.ownBlock:=by
       rcases q2.2 with⟨h,_⟩|⟨_,_,_,h,_⟩ <;> (rw[h];rfl)
     exact⟨I,w',q1,q2,by rw[ar];exact q3,by rw[ar,ay];exact q5⟩
 obtain⟨I,w',q1,q2,q3,q4⟩:=aw;have ae:=X.free k r hk;have ac:∀j,S.fz j->w'.heap[j]?=w.heap[j]?:=fun j F=>q3.block j (X.fz_lt j F) (fun e=>ae j e.symm F)
 have O:gE S w w':=X.kept ac;have U:=S.le_addRow I r.sz;have J:(S.addRow I r.sz).loc S.N=I:=by simp[Sg.addRow]
 have a0:∀g,blk I=some g->¬S.fz g:=fun g E hf=>by
   rcases q4 with e|e
   . exact ae g (e▸E) hf
   . rw[e]at E;injection E with E;subst E;exact Nat.lt_irrefl _ (X.fz_lt _ hf)
 have V:∀j r',j≠S.N->aI (aI H k none) S.N (some ⟨r.e,r.sz,r.es++news⟩) j=some r'->j≠k/\H j=some r':=fun j r' F h=>by
   rw[aF _ _ _ _ F]at h;by_cases e:j=k
   . subst e;rw[aA]at h;simp at h
   . rw[aF _ _ _ _ e]at h;exact⟨e,h⟩
 have af:∀j r',j≠k->H j=some r'->∀g,blk (S.loc j)=some g->some g≠blk (S.loc k)/\g<w.heap.size:=fun j r' F Z g E=>
   ⟨fun e=>X.disj j k r' r Z hk F g E e.symm,(X.rows j r' Z).block_lt E⟩
 have ap:∀j r',j≠k->H j=some r'->∀g,blk (S.loc j)=some g->blk I≠some g:=fun j r' F Z g E e=>by
   obtain⟨e1,e2⟩:=af j r' F Z g E;rcases q4 with e'|e'
   . exact e1 (by rw[<-e',e])
   . rw[e']at e;injection e with e;omega
 refine⟨I,w',q1,?_,⟨X.ro_fz,fun j F=>Nat.lt_of_lt_of_le (X.fz_lt j F) q3.size,?_,?_,?_,X.tabs.keep U O⟩,⟨U,fun _ h=>h,q3.os,q3.tape,q3.output,q3.size,ac,fun _ h=>.inl h⟩⟩
 . rcases q2.2 with⟨h,_⟩|⟨g,cap,cur,h,_⟩
   . exact⟨_,_,_,h⟩
   . exact⟨_,_,_,h⟩
 . intro j r' F
   by_cases e:j=S.N
   . subst e
     rw[aA]at F;injection F with F;subst F;refine⟨Nat.lt_succ_self _,by simp[Sg.addRow],ai,?_,.inl ⟨xs++l,?_,?_,?_⟩⟩
     . intro cs ab
       rcases List.mem_append.1 ab with ab|ab
       . exact hR.len cs ab
       . exact ag cs ab
     . rw[J,List.length_append];exact q2
     . rw[List.flatten_append]
       exact dO _ _ _ _ (dW U O _ _ hr) (dW U O _ _ hl)
     . intro x hx
       rcases List.mem_append.1 hx with hx|hx
       . exact h1 x hx
       . exact an x hx
   . obtain⟨e1,e2⟩:=V j r' e F
     exact(X.rows j r' e2).keep U O fun g E=>q3.block g (af j r' e1 e2 g E).2 (af j r' e1 e2 g E).1
 . intro j r' F g E
   by_cases e:j=S.N
   . subst e;rw[J]at E;exact a0 g E
   . obtain⟨e1,e2⟩:=V j r' e F
     rw[U.loc j (X.rows j r' e2).lt]at E;exact X.free j r' e2 g E
 . intro j j' r1 r2 F Z av g E aa
   by_cases e:j=S.N
   . subst e
     rw[J]at E;obtain⟨e1,e2⟩:=V j' r2 (Ne.symm av) Z;rw[U.loc j' (X.rows j' r2 e2).lt]at aa;exact ap j' r2 e1 e2 g aa E
   . obtain⟨e1,e2⟩:=V j r1 e F
     rw[U.loc j (X.rows j r1 e2).lt]at E;by_cases e':j'=S.N
     . subst e'
       rw[J]at aa;exact ap j r1 e1 e2 g E aa
     . obtain⟨e3,e4⟩:=V j' r2 e' Z
       rw[U.loc j' (X.rows j' r2 e4).lt]at aa;exact X.disj j j' r1 r2 e2 e4 av g E aa
theorem MB{es:List (List AV)}{J:Option Addr}{n:Nat}(h:rep S w (.cl es) (.slice J n n)){sz:Nat}(Z:cZ sz es):
   ∃l,l.length=es.length*sz/\bG S w es.flatten l/\(∀x∈l,x.oneCell'=true)/\n=es.length/\n<=maxLen/\(es=[]\/∃b o,J=some ⟨b,o,none⟩/\∀j x,l[j]?=some x->w.cell? ⟨b,o+j,none⟩=some x):=by
 simp only[rep]at h;obtain⟨X,n',e,rfl,O,V⟩:=h;injection e with U F I;subst U F;rcases V with rfl|⟨b,o,aa,rfl,hb,hs,E⟩
 . exact⟨[],by simp,by simp[bG],by simp,rfl,O,.inl rfl⟩
 . obtain⟨l,U,F,I,Y⟩:=mR _ _ (yA es o E)
   refine⟨l,?_,F,I,rfl,O,.inr ⟨b,o,rfl,Y⟩⟩;rw[iC _ _ F,pA es (jC.1 Z)]
theorem St.appendNew(Y:St S w H){es:List (List AV)}{us:Value}(az:rep S w (.cl es) us){t ty e:TypeId}{sz F:Nat}(he:cF P t=some (e,sz,F)){news:List (List AV)}{u:Value}(hu:AH S w u news)(ax:news≠[])
   (ao:cZ sz es) (ar:cZ sz news) (hb:(es.length+news.length)*F<=140737488355328):
   ∃v' w',(Builtin.append_ #[t,t] ty #[us,u]).run P w=.ok v' w'/\(∃a n c,v'=.slice a n c) /\
     St (S.addRow v' sz) w' (aI H S.N (some ⟨e,sz,es++news⟩))/\Grow S w (S.addRow v' sz) w':=by
 obtain⟨a7,z,av,hi,aq,a5,af,ak,hz,ay⟩:=jD he;have ai:=az;simp only[rep]at ai;obtain⟨au,n0,rfl,_⟩:=ai;obtain⟨l0,ah,a9,bb,rfl,bd,an⟩:=MB az ao;obtain⟨ad,c,l,rfl,hl,ap,a6⟩:=hu;have ag:=jC.1 ar;have a4:=jC.1 ao;have am:l.length=news.length*sz:=by rw[iC _ _ hl,pA news ag]
 have bc:0<news.length:=List.length_pos_iff.2 ax;have be:es.length+news.length<=140737488355328:=Nat.le_trans (Nat.le_mul_of_pos_right _ ak) hb;obtain⟨b,o,rfl,hcell⟩:∃b o,ad=some ⟨b,o,none⟩/\∀j x,l[j]?=some x->w.cell? ⟨b,o+j,none⟩=some x:=by
   rcases a6 with h|h
   . exact absurd h ax
   . exact h
 have ac:∀j x,l[j]?=some x->w.cell? ((⟨b,o,none⟩:Addr).add j)=some x:=fun j x hj=>by rw[Addr.add_lit];exact hcell j x hj
 have a8:∃v' w',(Builtin.append_ #[t,t] ty #[.slice au es.length es.length,.slice (some ⟨b,o,none⟩) news.length c]).run P w=.ok v' w'/\w'.ownsRow w.heap.size e sz v' (es.length+news.length) (l0++l)/\w.grownBy w' none:=by
   cases au with
   | none=>
     have ba:es=[]:=by
       rcases an with h|⟨_,_,h,_⟩
       . exact h
       . cases h
     subst ba;obtain rfl:l0=[]:=List.eq_nil_of_length_eq_zero (by simpa using ah);obtain⟨v',w',q1,q2,q3,_⟩:=run_append_own (P:=P) w w.heap.size t ty e a7 z sz F av hi hz aq a5 ay af (.slice none 0 0) 0 [] (World.ownsRow_nil w _ e sz) ⟨b,o,none⟩ news.length c l am ac ap (by simp only[maxLen];omega) hb (Nat.le_refl _);exact⟨v',w',q1,q2,q3⟩
   | some a0=>
     have al:∀j x,l0[j]?=some x->w.cell? (a0.add j)=some x:=by
       rcases an with h|⟨b0,o0,h,hc⟩
       . subst h
         obtain rfl:l0=[]:=List.eq_nil_of_length_eq_zero (by simpa using ah);simp
       . injection h with h
         subst h;intro j x hj;rw[Addr.add_lit];exact hc j x hj
     exact run_append_arg_grows (P:=P) w t ty e a7 z sz F av hi hz aq a5 ay af a0 es.length es.length l0 ah al ⟨b,o,none⟩ news.length c l am ac (by omega) (by simp only[maxLen];omega) hb
 obtain⟨v',w',q1,q2,q3⟩:=a8;obtain⟨g,cap,cur,hv,hg0,hg,hnc,hcm,Z,htk⟩:∃g cap cur,v'=.slice (some ⟨g,0,none⟩) (es.length+news.length) cap/\w.heap.size<=g/\w'.heap[g]?=some (.cells cur e (0,0))/\es.length+news.length<=cap/\cap<=maxLen/\cur.size=cap*sz/\cur.toList.take ((es.length+news.length)*sz)=l0++l:=by
   rcases q2.2 with⟨_,h⟩|⟨g,cap,cur,h1,h2,h3,h4,h5,h6,h7⟩
   . omega
   . exact⟨g,cap,cur,h1,h2,h3,h4,h5,h6,h7⟩
 subst hv;have aa:∀k,k<w.heap.size->w'.heap[k]?=w.heap[k]?:=fun k U=>q3.block k U (by simp)
 have J:gE S w w':=fun k U=>aa k (Y.fz_lt k (Y.ro_fz k U))
 have O:=S.le_addRow (.slice (some ⟨g,0,none⟩) (es.length+news.length) cap) sz;have I:(S.addRow (.slice (some ⟨g,0,none⟩) (es.length+news.length) cap) sz).loc S.N=.slice (some ⟨g,0,none⟩) (es.length+news.length) cap:=by simp[Sg.addRow]
 have V:∀k r,k≠S.N->aI H S.N (some ⟨e,sz,es++news⟩) k=some r->H k=some r:=fun k r U h=>by rwa [aF _ _ _ _ U]at h
 refine⟨_,w',q1,⟨_,_,_,rfl⟩,⟨Y.ro_fz,fun k U=>Nat.lt_of_lt_of_le (Y.fz_lt k U) q3.size,?_,?_,?_,Y.tabs.keep O J⟩,⟨O,fun _ h=>h,q3.os,q3.tape,q3.output,q3.size,fun k U=>aa k (Y.fz_lt k U),fun _ h=>.inl h⟩⟩
 . intro k r U
   by_cases e0:k=S.N
   . subst e0
     rw[aA]at U;injection U with U;subst U;refine⟨Nat.lt_succ_self _,by simp[Sg.addRow],af,?_,.inl ⟨l0++l,?_,?_,?_⟩⟩
     . intro cs Z
       rcases List.mem_append.1 Z with Z|Z
       . exact a4 cs Z
       . exact ag cs Z
     . rw[I,List.length_append]
       exact⟨by rw[List.length_append,ah,am,Nat.add_mul],.inr ⟨g,cap,cur,rfl,Nat.zero_le _,hg,hnc,hcm,Z,htk⟩⟩
     . rw[List.flatten_append]
       exact dO _ _ _ _ (dW O J _ _ a9) (dW O J _ _ hl)
     . intro x hx
       rcases List.mem_append.1 hx with hx|hx
       . exact bb x hx
       . exact ap x hx
   . have X:=V k r e0 U
     exact(Y.rows k r X).keep O J fun g' E=>aa g' ((Y.rows k r X).block_lt E)
 . intro k r U g' E
   by_cases e0:k=S.N
   . subst e0
     rw[I]at E;simp only[blk,Option.some.injEq]at E;subst E;exact fun h=>by have:=Y.fz_lt _ h;omega
   . have X:=V k r e0 U
     rw[O.loc k (Y.rows k r X).lt]at E;exact Y.free k r X g' E
 . intro k k' r r' U X aj g' E ab
   by_cases e0:k=S.N
   . subst e0
     rw[I]at E;simp only[blk,Option.some.injEq]at E;subst E;have ae:=V k' r' (Ne.symm aj) X;rw[O.loc k' (Y.rows k' r' ae).lt]at ab;have:=(Y.rows k' r' ae).block_lt ab;omega
   . have ae:=V k r e0 U
     rw[O.loc k (Y.rows k r ae).lt]at E;by_cases e1:k'=S.N
     . subst e1
       rw[I]at ab;simp only[blk,Option.some.injEq]at ab;subst ab;have:=(Y.rows k r ae).block_lt E;omega
     . have aw:=V k' r' e1 X
       rw[O.loc k' (Y.rows k' r' aw).lt]at ab;exact Y.disj k k' r r' ae aw aj g' E ab
end
end Go.Aw
end
section
namespace Go.Aw
open Go.RowKit
mutual
inductive Conv (H:aK):AV->AV->Prop
 | refl (x:AV):Conv H x x
 | any (x:AV):Conv H x .any
 | row (k:Nat) (r:Row) (es:List (List AV)):H k=some r->ConvE H r.es es->Conv H (.os k) (.sl es)
 | sl (es es':List (List AV)):ConvE H es es'->Conv H (.sl es) (.sl es')
 | agg (cs cs':List AV):ConvL H cs cs'->Conv H (.agg cs) (.agg cs')
 | tup (cs cs':List AV):ConvL H cs cs'->Conv H (.tup cs) (.tup cs')
 | ptr (k i f:Nat) (r:Row) (cs:List AV):H k=some r->i<r.es.length->ConvL H (r.es.getD i []) cs->Conv H (.op k i f) (.rp cs f)
 | fn (f:FuncId) (cap cap':List AV):ConvL H cap cap'->Conv H (.fn f cap) (.fn f cap')
inductive ConvL (H:aK):List AV->List AV->Prop
 | nil:ConvL H [] []
 | cons (x y:AV) (r s:List AV):Conv H x y->ConvL H r s->ConvL H (x::r) (y::s)
inductive ConvE (H:aK):List (List AV)->List (List AV)->Prop
 | nil:ConvE H [] []
 | cons (x y:List AV) (r s:List (List AV)):ConvL H x y->ConvE H r s->ConvE H (x::r) (y::s)
end
theorem ConvL.refl{H:aK}:∀l,ConvL H l l
 | []=>.nil
 | x::r=>.cons x x r r (.refl x) (ConvL.refl r)
theorem ConvE.refl{H:aK}:∀l,ConvE H l l
 | []=>.nil
 | x::r=>.cons x x r r (ConvL.refl x) (ConvE.refl r)
def Sg.froze(S:Sg)(H:aK):Sg:=
 { S with ro:=fun g=>S.ro g\/∃k r,H k=some r/\blk (S.loc k)=some g,fz:=fun g=>S.fz g\/∃k r,H k=some r/\blk (S.loc k)=some g }
theorem Sg.le_froze(S:Sg)(H:aK):S.le (S.froze H):=⟨fun _ h=>.inl h,Nat.le_refl _,fun _ _=>rfl,fun _ _=>rfl⟩
section
variable{S:Sg}{w:World}{H:aK}
theorem ConvE.len:∀{es es':List (List AV)},ConvE H es es'->es'.length=es.length
 | _,_,.nil=>rfl
 | _,_,.cons _ _ _ _ _ h=>by simp[ConvE.len h]
mutual
theorem Conv.rep(J:St S w H):∀{x y:AV} {u:Value},Conv H x y->rep S w x u->Aw.rep (S.froze H) w y u
 | _,_,_,.refl x,h=>lI (S.le_froze H) (gE.refl S w) _ _ h
 | _,_,_,.any x,_=>by simp only[Aw.rep]
 | _,_,u,.row k r es hk I,h=>by
   simp only[Aw.rep]at h |-;obtain⟨_,rfl,_,_,_,O⟩:=h;have U:=J.rows k r hk;obtain⟨xs,ho,hr,h1⟩:=U.sl O;rcases ho.2 with⟨Z,hn⟩|⟨g,cap,cur,Z,_,h2,h3,V,h5⟩
   . have h0:=List.eq_nil_of_length_eq_zero hn
     refine⟨none,0,0,Z,by rw[I.len,hn],Nat.le_refl _,Nat.zero_le _,.inl ?_⟩;exact List.eq_nil_of_length_eq_zero (by rw[I.len,hn])
   . refine⟨_,_,cap,Z,I.len,h3,V,.inr ⟨g,0,r.sz,rfl,.inr ⟨k,r,hk,by rw[Z];rfl⟩,U.pos,?_⟩⟩
     refine ConvE.rep J I ?_;refine rA _ _ U.len (jQ _ xs 0 hr h1 fun j u hu=>?_);have:=ho.cells (g:=g) (by rw[Z];rfl) j u hu
     rwa [Addr.add_lit]at this
 | _,_,_,.sl es es' I,h=>by
   simp only[Aw.rep]at h |-;obtain⟨ad,n,c,rfl,h1,h2,h3,V⟩:=h;refine⟨ad,n,c,rfl,by rw[I.len,h1],h2,h3,?_⟩;rcases V with V|⟨b,o,sz,rfl,hb,hs,Y⟩
   . exact .inl (List.eq_nil_of_length_eq_zero (by rw[I.len,V];rfl))
   . exact .inr ⟨b,o,sz,rfl,.inl hb,hs,ConvE.rep J I Y⟩
 | _,_,_,.agg cs cs' hc,h=>by
   simp only[Aw.rep]at h |-;obtain⟨l,rfl,h1,h2⟩:=h;exact⟨l,rfl,ConvL.rep J hc h1,h2⟩
 | _,_,_,.tup cs cs' hc,h=>by
   simp only[Aw.rep]at h |-;obtain⟨l,rfl,h1⟩:=h;exact⟨l,rfl,ConvL.rep J hc h1⟩
 | _,_,_,.ptr k i f r cs hk hi hc,h=>by
   simp only[Aw.rep]at h |-;obtain⟨_,g,n,c,E,rfl⟩:=h;have U:=J.rows k r hk;have aa:r.es≠[]:=fun e=>by rw[e]at hi;simp at hi
   obtain⟨g',n',c',F,I,_⟩:=U.els E aa;rw[E]at F;injection F with X e2 e3;injection X with X;injection X with X;subst X;obtain⟨e4,e5⟩:=sV _ 0 i I hi;rw[Nat.zero_add,U.sz]at e5;exact⟨g,i*S.sz k,rfl,.inr ⟨k,r,hk,by rw[E];rfl⟩,(ConvL.cells J hc e5).1⟩
 | _,_,_,.fn f cap cap' hc,h=>by
   simp only[Aw.rep]at h |-;obtain⟨l,rfl,h1⟩:=h;exact⟨l,rfl,ConvL.rep J hc h1⟩
theorem ConvL.rep(E:St S w H):∀{x y:List AV} {l:List Value},ConvL H x y->bG S w x l->bG (S.froze H) w y l
 | _,_,_,.nil,h=>h
 | _,_,_,.cons x y r s hx hr,h=>by
   simp only[bG]at h |-;obtain⟨u,t,rfl,h1,F⟩:=h;exact⟨u,t,rfl,Conv.rep E hx h1,ConvL.rep E hr F⟩
theorem ConvL.cells(E:St S w H){b:Nat}:∀{x y:List AV} {o:Nat},ConvL H x y->dC S w b o x->dC (S.froze H) w b o y/\y.length=x.length
 | _,_,_,.nil,_=>⟨trivial,rfl⟩
 | _,_,o,.cons x y r s hx hr,h=>by
   simp only[dC]at h |-;obtain⟨⟨u,h1,F,O⟩,U⟩:=h;obtain⟨J,I⟩:=ConvL.cells E hr U;exact⟨⟨⟨u,h1,F,Conv.rep E hx O⟩,J⟩,by simp[I]⟩
theorem ConvE.rep(E:St S w H){b sz:Nat}:∀{x y:List (List AV)} {o:Nat},ConvE H x y->iG S w b sz o x->iG (S.froze H) w b sz o y
 | _,_,_,.nil,_=>trivial
 | _,_,o,.cons x y r s hx hr,h=>by
   simp only[iG]at h |-;obtain⟨h1,F,O⟩:=h;obtain⟨J,I⟩:=ConvL.cells E hx F;exact⟨by rw[I,h1],J,ConvE.rep E hr O⟩
end
end
mutual
def fv:AV->Option Value
 | .v x=>some x
 | .tup vs=>(fvL vs).map fun l=>.tuple l.toArray
 | .agg vs=>(fvL vs).map fun l=>.agg l.toArray
 | _=>none
def fvL:List AV->Option (List Value)
 | []=>some []
 | x::r=>match fv x,fvL r with
   | some u,some l=>some (u::l)
   | _,_=>none
end
mutual
theorem Qs{S:Sg}{w:World}:∀{x:AV} {u v:Value},fv x=some v->rep S w x u->u=v
 | .v x,u,v,h,hr=>by
   simp only[fv]at h;injection h with h;subst h;simpa only[rep]using hr
 | .tup vs,u,v,h,hr=>by
   simp only[fv]at h;cases E:fvL vs with
   | none=>simp[E]at h
   | some l=>
     simp[E]at h;subst h;simp only[rep]at hr;obtain⟨l',rfl,h1⟩:=hr;rw[Ms E h1]
 | .agg vs,u,v,h,hr=>by
   simp only[fv]at h;cases E:fvL vs with
   | none=>simp[E]at h
   | some l=>
     simp[E]at h;subst h;simp only[rep]at hr;obtain⟨l',rfl,h1,_⟩:=hr;rw[Ms E h1]
 | .any,_,_,h,_=>by simp[fv]at h
 | .sl _,_,_,h,_=>by simp[fv]at h
 | .rp _ _,_,_,h,_=>by simp[fv]at h
 | .os _,_,_,h,_=>by simp[fv]at h
 | .op _ _ _,_,_,h,_=>by simp[fv]at h
 | .gd _ _,_,_,h,_=>by simp[fv]at h
 | .fn _ _,_,_,h,_=>by simp[fv]at h
 | .nf _,_,_,h,_=>by simp[fv]at h
 | .oz _ _ _,_,_,h,_=>by simp[fv]at h
 | .cl _,_,_,h,_=>by simp[fv]at h
theorem Ms{S:Sg}{w:World}:∀{x:List AV} {u v:List Value},fvL x=some v->bG S w x u->u=v
 | [],u,v,h,hr=>by
   simp only[fvL]at h;injection h with h;subst h;simpa only[bG]using hr
 | x::r,u,v,h,hr=>by
   simp only[fvL]at h;cases h1:fv x with
   | none=>simp[h1]at h
   | some a=>
     cases E:fvL r with
     | none=>simp[h1,E]at h
     | some l=>
       simp[h1,E]at h;subst h;simp only[bG]at hr;obtain⟨J,t,rfl,I,F⟩:=hr;rw[Qs h1 I,Ms E F]
end
mutual
theorem aaS{S J:Sg}{w I:World}:∀{x:AV} {u v:Value},fv x=some v->rep S w x u->rep J I x u
 | .v x,u,v,h,hr=>by simpa only[rep]using hr
 | .tup vs,u,v,h,hr=>by
   simp only[fv]at h;cases E:fvL vs with
   | none=>simp[E]at h
   | some l=>
     simp only[rep]at hr |-;obtain⟨l',rfl,h1⟩:=hr;exact⟨l',rfl,K0 E h1⟩
 | .agg vs,u,v,h,hr=>by
   simp only[fv]at h;cases E:fvL vs with
   | none=>simp[E]at h
   | some l=>
     simp only[rep]at hr |-;obtain⟨l',rfl,h1,F⟩:=hr;exact⟨l',rfl,K0 E h1,F⟩
 | .any,_,_,h,_=>by simp[fv]at h
 | .sl _,_,_,h,_=>by simp[fv]at h
 | .rp _ _,_,_,h,_=>by simp[fv]at h
 | .os _,_,_,h,_=>by simp[fv]at h
 | .op _ _ _,_,_,h,_=>by simp[fv]at h
 | .gd _ _,_,_,h,_=>by simp[fv]at h
 | .fn _ _,_,_,h,_=>by simp[fv]at h
 | .nf _,_,_,h,_=>by simp[fv]at h
 | .oz _ _ _,_,_,h,_=>by simp[fv]at h
 | .cl _,_,_,h,_=>by simp[fv]at h
theorem K0{S O:Sg}{w I:World}:∀{x:List AV} {u v:List Value},fvL x=some v->bG S w x u->bG O I x u
 | [],u,v,h,hr=>by simpa only[bG]using hr
 | x::r,u,v,h,hr=>by
   simp only[fvL]at h;cases h1:fv x with
   | none=>simp[h1]at h
   | some a=>
     cases E:fvL r with
     | none=>simp[h1,E]at h
     | some l=>
       simp only[bG]at hr |-;obtain⟨U,t,rfl,J,F⟩:=hr;exact⟨U,t,rfl,aaS h1 J,K0 E F⟩
end
def apH(S:Sg)(w:World)(H:aK)(R:AV->aK->Prop)(e:Ending)(w':World):Prop:=
 ∃v r H' S',e=.returned v/\R r H'/\St S' w' H'/\rep S' w' r v/\Grow S w S' w'/\fS S.N H H'
def bF(P:Program)(f:FuncId)(args:List AV)(H:aK)(R:AV->aK->Prop):Prop:=
 ∀S w (vals:List Value),St S w H->bG S w args vals->Calls P f vals.toArray w (apH S w H R)
def bV:aK:=fun _=>none
def RC(P:Program)(f:FuncId)(args:List AV)(R:AV->aK->Prop):Prop:=
 ∀S w (vals:List Value),St S w bV->(∀k,k<w.heap.size->S.fz k)->bG S w args vals->Calls P f vals.toArray w (apH S w bV R)
def PC(P:Program)(f:FuncId)(args:List AV)(r:AV):Prop:=RC P f args fun x _=>x=r
def NC(P:Program)(f:FuncId)(args:List AV)(row:Row)(mk:Nat->AV):Prop:=RC P f args fun x H'=>∃k,x=mk k/\H' k=some row
def Cw(P:Program)(f:FuncId)(args:List AV)(H:aK)(r:AV):Prop:=∃args',ConvL H args args'/\PC P f args' r/\(fv r).isSome=true
def dP(P:Program)(f:FuncId)(args:List AV)(H:aK)(r:AV):Prop:=Cw P f args H r\/∃x,r=.nf x/\PC P f args x
theorem PQ{q:Bool}{r:AV}{K:AV->Prop}(h:(fv r).isSome=true):nfq q r K=K r:=by
 cases q <;> cases r <;> first|rfl|(simp[fv]at h)
theorem N3{q:Bool}{r:AV}{K:AV->Prop}(h:nfq q r K):∃z,K z:=by
 unfold nfq at h;split at h
 . exact h.elim
 . exact⟨_,h⟩
 . exact⟨_,h⟩
section
variable{P:Program}{f:FuncId}{args:List AV}{H:aK}{R K:AV->aK->Prop}
theorem RC.mono(h:RC P f args R)(J:∀r H',R r H'->K r H'):RC P f args K:=fun S w vals U F E=>
 (h S w vals U F E).mono fun _ _ ⟨v,r,H',S',h1,I,O⟩=>⟨v,r,H',S',h1,J r H' I,O⟩
theorem St.drop{S:Sg}{w:World}{H':aK}(h:St S w H)(F:∀k r,H' k=some r->H k=some r):St S w H':=
 ⟨h.ro_fz,h.fz_lt,fun k r E=>h.rows k r (F k r E),fun k r E=>h.free k r (F k r E),fun k k' r r' E I=>h.disj k k' r r' (F k r E) (F k' r' I),h.tabs⟩
theorem RC.conv{r:AV}(h:RC P f args fun x H'=>Conv H' x r):PC P f args r:=fun S w vals hS O X=>
 (h S w vals hS O X).mono fun e w' ⟨v,x,H',S',V,Y,F,Z,J,hn⟩=>by
   refine⟨v,r,bV,S'.froze H',V,rfl,⟨?_,?_,fun k r I=>by simp[bV]at I,fun k r I=>by simp[bV]at I,fun k k' r r' I=>by simp[bV]at I,F.tabs.keep (S'.le_froze H') (gE.refl S' w')⟩,Y.rep F Z,?_,fun _ _ _=>rfl⟩
   . rintro g (E|E)
     . exact .inl (F.ro_fz g E)
     . exact .inr E
   . rintro g (E|⟨k,row,I,E⟩)
     . exact F.fz_lt g E
     . exact(F.rows k row I).block_lt E
   . refine⟨Sg.le_trans J.le (S'.le_froze H'),fun k I=>.inl (J.fz k I),J.os,J.tape,J.output,J.size,J.same,?_⟩
     rintro g (E|⟨k,row,I,E⟩)
     . exact J.newro g E
     . exact .inr fun U=>F.free k row I g E (J.fz g U)
def merge(H H':aK):aK:=fun k=>match H' k with|some r=>some r|none=>H k
theorem RC.frame(h:RC P f args R)(hK:∀r H',R r H'->(∀k row,H' k=some row->H k=none)->∃aa,K r aa/\(∀k row,aa k=some row->merge H H' k=some row)/\∀k,H k=none->H' k=none->aa k=none):
   bF P f args H K:=by
 intro S w vals I ha
 let S0:Sg:={ S with fz:=fun k=>k<w.heap.size }
 have ak:S.le S0:=⟨fun _ h=>h,Nat.le_refl _,fun _ _=>rfl,fun _ _=>rfl⟩;have ar:St S0 w bV:=⟨fun k E=>I.fz_lt k (I.ro_fz k E),fun _ h=>h,fun k r E=>by simp[bV]at E,fun k r E=>by simp[bV]at E,fun k k' r r' E=>by simp[bV]at E,I.tabs⟩;refine(h S0 w vals ar (fun _ h=>h) (dW ak (gE.refl S w) _ _ ha)).mono fun e w' ⟨v,x,H',S',he,hx,J,hv,Y,hn⟩=>?_
 have an:∀k row,H' k=some row->S.N<=k:=fun k row E=>by
   rcases Nat.lt_or_ge k S.N with af|ai
   . rw[hn k af rfl]at E;simp at E
   . exact ai
 have aj:∀k row,H' k=some row->H k=none:=fun k row E=>by
   cases hH:H k with
   | none=>rfl
   | some r=>have:=(I.rows k r hH).lt;have:=an k row E;omega
 obtain⟨aa,ap,aq,au⟩:=hK x H' hx aj
 let S'':Sg:={ S' with fz:=fun k=>S.fz k\/(S'.fz k/\w.heap.size<=k)\/S'.ro k }
 have ab:S'.le S'':=⟨fun _ h=>h,Nat.le_refl _,fun _ _=>rfl,fun _ _=>rfl⟩;have ao:∀k,k<S.N->S'.loc k=S.loc k:=Y.le.loc;have ae:S.le S'':=⟨fun k E=>Y.le.ro k E,Y.le.N,Y.le.loc,Y.le.sz⟩;have V:∀k,k<w.heap.size->w'.heap[k]?=w.heap[k]?:=Y.same;have ah:gE S w w':=fun k E=>V k (I.fz_lt k (I.ro_fz k E))
 have ag:∀k r,H k=some r->RowOK S'' w' k r:=fun k r E=>(I.rows k r E).keep ae ah fun g F=>V g ((I.rows k r E).block_lt F)
 have ad:∀k r,H' k=some r->RowOK S'' w' k r:=fun k r E=>(J.rows k r E).keep ab (gE.refl S' w') fun _ _=>rfl
 have O:∀k r,H k=some r->∀g,blk (S''.loc k)=some g->blk (S.loc k)=some g/\g<w.heap.size:=fun k r E g F=>by
   have h1:S''.loc k=S.loc k:=ao k (I.rows k r E).lt;rw[h1]at F;exact⟨F,(I.rows k r E).block_lt F⟩
 have U:∀k r,H' k=some r->∀g,blk (S''.loc k)=some g->¬S'.fz g/\w.heap.size<=g:=fun k r E g F=>by
   have h1:=J.free k r E g F;refine⟨h1,?_⟩;rcases Nat.lt_or_ge g w.heap.size with af|ai
   . exact absurd (Y.fz g af) h1
   . exact ai
 have JT:∀k r,merge H H' k=some r->H' k=some r\/(H k=some r/\H' k=none):=fun k r E=>by
   unfold merge at E;cases h':H' k with
   | none=>rw[h']at E;exact .inr ⟨E,rfl⟩
   | some r'=>rw[h']at E;exact .inl E
 have hM:St S'' w' (merge H H'):=by
   refine⟨fun k E=>.inr (.inr E),?_,?_,?_,?_,J.tabs⟩
   . rintro k (E|E|E)
     . exact Nat.lt_of_lt_of_le (I.fz_lt k E) Y.size
     . exact J.fz_lt k E.1
     . exact J.fz_lt k (J.ro_fz k E)
   . intro k r E
     rcases JT k r E with h'|⟨h',_⟩
     . exact ad k r h'
     . exact ag k r h'
   . intro k r E g F Z
     rcases JT k r E with h'|⟨h',_⟩
     . obtain⟨e1,e2⟩:=U k r h' g F
       rcases Z with Z|Z|Z
       . have:=I.fz_lt g Z;omega
       . exact e1 Z.1
       . exact e1 (J.ro_fz g Z)
     . obtain⟨e1,e2⟩:=O k r h' g F
       rcases Z with Z|Z|Z
       . exact I.free k r h' g e1 Z
       . omega
       . rcases Y.newro g Z with X|X
         . exact I.free k r h' g e1 (I.ro_fz g X)
         . exact X e2
   . intro k k' r r' E am al g F ac
     rcases JT k r E with h1|⟨h1,_⟩
     . rcases JT k' r' am with X|⟨X,_⟩
       . exact J.disj k k' r r' h1 X al g F ac
       . have:=(U k r h1 g F).2;have:=(O k' r' X g ac).2;omega
     . rcases JT k' r' am with X|⟨X,_⟩
       . have:=(O k r h1 g F).2;have:=(U k' r' X g ac).2;omega
       . exact I.disj k k' r r' h1 X al g (O k r h1 g F).1 (O k' r' X g ac).1
 refine⟨v,x,aa,S'',he,ap,hM.drop aq,lI ab (gE.refl S' w') _ _ hv,⟨ae,fun _ h=>.inl h,Y.os,Y.tape,Y.output,Y.size,fun k E=>V k (I.fz_lt k E),fun k E=>(Y.newro k E).imp id (fun X h3=>X (I.fz_lt k h3))⟩,?_⟩
 . intro k E h0
   exact au k h0 (hn k E rfl)
theorem PC.use{r:AV}(h:PC P f args r)(O:K r H):bF P f args H K:=
 RC.frame h fun x H' I J=>⟨H,I▸O,fun k row E=>by
   unfold merge;cases F:H' k with
   | none=>exact E
   | some r'=>rw[J k r' F]at E;simp at E,fun _ h _=>h⟩
theorem NC.use{row:Row}{I:Nat->AV}(h:NC P f args row I)(V:∀k,H k=none->K (I k) (aI H k (some row))):bF P f args H K:=
 RC.frame h fun x H' ⟨k,U,F⟩ J=>⟨aI H k (some row),U▸V k (J k row F),fun j r E=>by
   unfold merge;by_cases e:j=k
   . subst e;rw[aA]at E;rw[F];exact E
   . rw[aF _ _ _ _ e]at E
     cases O:H' j with
     | none=>exact E
     | some r'=>rw[J j r' O]at E;simp at E,fun j h0 h1=>by
   by_cases e:j=k
   . subst e;rw[F]at h1;simp at h1
   . rw[aF _ _ _ _ e];exact h0⟩
theorem Cw.val{r:AV}(h:Cw P f args H r):∃v,fv r=some v:=by
 obtain⟨_,_,_,E⟩:=h;exact Option.isSome_iff_exists.1 E
theorem Cw.calls{r:AV}(h:Cw P f args H r){v:Value}(Z:fv r=some v){S:Sg}{w:World}{vals:List Value}(U:St S w H)(ha:bG S w args vals):
   (∀S2 w2,rep S2 w2 r v)/\Calls P f vals.toArray w fun e w'=>e=.returned v/\w'.os=w.os/\w'.tape=w.tape/\w'.output=w.output/\w.heap.size<=w'.heap.size/\∀k,k<w.heap.size->w'.heap[k]?=w.heap[k]?:=by
 obtain⟨args',hc,hp,hf⟩:=h
 let S0:Sg:={ S.froze H with fz:=fun k=>k<w.heap.size }
 have J:(S.froze H).le S0:=⟨fun _ h=>h,Nat.le_refl _,fun _ _=>rfl,fun _ _=>rfl⟩;have X:St S0 w bV:=⟨fun k I=>by
   rcases I with I|⟨j,r,hj,O⟩
   . exact U.fz_lt k (U.ro_fz k I)
   . exact(U.rows j r hj).block_lt O,fun _ h=>h,fun k r I=>by simp[bV]at I,fun k r I=>by simp[bV]at I,fun k k' r r' I=>by simp[bV]at I,(U.tabs.keep (S.le_froze H) (gE.refl S w)).keep J (gE.refl _ w)⟩
 have E:=hp S0 w vals X (fun _ h=>h) (dW J (gE.refl _ w) _ _ (hc.rep U ha));refine⟨fun S2 w2=>?_,E.mono fun e w' ⟨v',x,H',S',he,Y,V,F,O,hn⟩=>?_⟩
 . obtain⟨e,w',fr,⟨v',x,H',S',he,Y,V,F,_⟩,_⟩:=E []
   subst Y;have:=Qs Z F;subst this;exact aaS Z F
 . subst Y
   have:=Qs Z F;subst this;exact⟨he,O.os,O.tape,O.output,O.size,O.same⟩
theorem St.after{S:Sg}{w w':World}(E:St S w H)(J:w.heap.size<=w'.heap.size)(F:∀k,k<w.heap.size->w'.heap[k]?=w.heap[k]?):St S w' H:=
 ⟨E.ro_fz,fun k h=>Nat.lt_of_lt_of_le (E.fz_lt k h) J,fun k r h=>(E.rows k r h).keep S.le_refl (fun j I=>F j (E.fz_lt j (E.ro_fz j I))) fun g O=>F g ((E.rows k r h).block_lt O),E.free,E.disj,E.tabs.keep S.le_refl (fun j I=>F j (E.fz_lt j (E.ro_fz j I)))⟩
theorem St.grow{S:Sg}{w w':World}(J:St S w H)(O:w'.os=w.os)(I:w'.tape=w.tape)(U:w'.output=w.output)(E:w.heap.size<=w'.heap.size)(F:∀k,k<w.heap.size->w'.heap[k]?=w.heap[k]?):Grow S w S w':=
 ⟨S.le_refl,fun _ h=>h,O,I,U,E,fun k h=>F k (J.fz_lt k h),fun _ h=>.inl h⟩
theorem Cw.use{r:AV}(h:Cw P f args H r)(hK:K r H):bF P f args H K:=by
 intro S w vals F V;obtain⟨v,E⟩:=h.val;obtain⟨Z,X⟩:=h.calls E F V;refine X.mono fun e w' ⟨O,ho,Y,U,I,J⟩=>⟨v,r,H,S,O,hK,F.after I J,?_,F.grow ho Y U I J,fS.refl _ _⟩
 exact Z S w'
end
end Go.Aw
end
section
namespace Go.Aw
open Go.RowKit
def Rel(n:Nat)(S0:Sg)(w0:World)(H0:aK)(ρ:Env)(H:aK)(a:Act)(w:World):Prop:=
 ∃S,St S w H/\FR S w ρ a/\Grow S0 w0 S w/\fS S0.N H0 H/\a.defers=[]/\a.tmps.size=n
def anH(n:Nat):Option Nat->Bool
 | some d=>decide (d<n)
 | none=>true
def kJ(n:Nat)(o:Oper):Bool:=o.op.operands.all (opB n)&&anH n o.dst
section
variable{P:Program}{n:Nat}{S0:Sg}{w0:World}{H0:aK}{mt:Nat->Bool}{ops:Array Oper}
theorem yI{o:Oper}(h:kJ n o=true):(∀x∈o.op.operands,opB n x=true)/\anH n o.dst=true:=by
 simp only[kJ,Bool.and_eq_true]at h;exact⟨fun x E=>Array.all_eq_true_iff_forall_mem.1 h.1 x E,h.2⟩
theorem wJ(a:Act)(d:Option Nat)(v:Value):(a.put d v).tmps.size=a.tmps.size:=by cases d <;> simp[Act.put]
theorem oA(a:Act)(d:Option Nat)(v:Value):(a.put d v).defers=a.defers:=by cases d <;> simp[Act.put]
theorem zB{S:Sg}{w:World}{ρ:Env}{a:Act}{o:Oper}{K:Option Bool->Prop}(O:∀o∈ops,kJ n o=true)(Z:FR S w ρ a)(hn:a.tmps.size=n)(h:cQ ops ρ o.guard K):
   ∃G,K G/\(Region.wanted o (yielded ops a.tmps)=true↔gt G):=by
 unfold cQ at h;unfold Region.wanted;cases Y:o.guard with
 | none=>
   rw[Y]at h;exact⟨none,h,by simp[gt]⟩
 | some jw=>
   obtain⟨j,E⟩:=jw;rw[Y]at h;simp only at h;cases J:(ops[j]?).bind (·.dst)with
   | none=>rw[J]at h;exact h.elim
   | some t=>
     rw[J]at h;simp only at h;have X:t<a.tmps.size:=by
       cases V:ops[j]? with
       | none=>simp[V]at J
       | some oj=>
         simp[V]at J;have:=(yI (O oj (Array.mem_of_getElem? V))).2;rw[J]at this;simpa[anH,hn]using this
     have F:yielded ops a.tmps j=match a.tmps.getD t undef with| .bool b=>some b|_=>none:=by
       unfold yielded;rw[J];have e:a.tmps.getD t undef=a.tmps[t]:=by simp[Array.getD,X]
       rw[e];simp only[Option.bind_some,Array.getElem?_eq_getElem X];cases a.tmps[t] <;> rfl
     have I:=Z t X;split at h
     . rename_i b U
       rw[U]at I;simp only[rep]at I;rw[I]at F;refine⟨_,h,?_⟩;simp only[F,gt];cases b <;> cases E <;> simp
     . rename_i g b U
       rw[U]at I;simp only[rep]at I;refine⟨_,h,?_⟩;cases g with
       | true=>
         rw[I.1 rfl]at F;simp only[F,gt];cases b <;> cases E <;> simp
       | false=>
         rw[I.2 rfl]at F;simp[undef]at F;simp[F,gt]
     . exact h.elim
theorem fE{S:Sg}{w:World}{G:Option Bool}{z:AV}(h:¬gt G):rep S w (wr G z) undef:=by
 cases G with
 | none=>exact absurd trivial h
 | some b=>
   have:b=false:=by simpa[gt]using h
   subst this;simp[wr,rep]
theorem fW{S:Sg}{w:World}{G:Option Bool}{z:AV}{v:Value}(h:gt G)(E:rep S w z v):rep S w (wr G z) v:=by
 cases G with
 | none=>exact E
 | some b=>
   have:b=true:=h;subst this;simpa[wr,rep]using E
end
section
variable{P:Program}{n:Nat}{S0:Sg}{w0:World}{H0:aK}{mt:Nat->Bool}{ops:Array Oper}{K:Env->aK->Prop}{K':Act->World->Prop}{Q':Exit->Act->World->Prop}{ρ:Env}{H:aK}{a:Act}{w:World}{o:Oper}{S:Sg}
def zV(P:Program)(ops:Array Oper)(o:Oper)(a:Act)(w:World)(K':Act->World->Prop)(Q':Exit->Act->World->Prop):Prop:=
 (Region.wanted o (yielded ops a.tmps)=true->o.wp P a w K' Q')/\(Region.wanted o (yielded ops a.tmps)=false->K' (a.put o.dst undef) w)
theorem fA{v:Value}{w':World}(h:(execOp a.eval o).run P w=.ok (.value v) w')(E:K' (a.put o.dst v) w'):o.wp P a w K' Q':=by
 unfold Oper.wp;rw[h];exact E
theorem Rel.step(Z:St S w H)(X:FR S w ρ a)(J:Grow S0 w0 S w)(U:fS S0.N H0 H)(Y:a.defers=[])(O:a.tmps.size=n){S':Sg}{w':World}{H':aK}{z:AV}{v:Value}{d:Option Nat}
   (F:St S' w' H') (E:Grow S w S' w') (I:fS S.N H H') (V:rep S' w' z v):Rel n S0 w0 H0 (upd ρ d z) H' (a.put d v) w':=
 ⟨S',F,FR.put (X.keep E.le (E.kept Z)) V,J.trans E,U.trans I J.le.N,by rw[oA];exact Y,by rw[wJ];exact O⟩
theorem sR(J:St S w H)(U:FR S w ρ a)(Y:Grow S0 w0 S w)(Z:fS S0.N H0 H)(hd:a.defers=[])(V:a.tmps.size=n)(hb:∀x∈o.op.operands,opB n x=true){G:Option Bool}
   (I:Region.wanted o (yielded ops a.tmps)=true↔gt G) (hK:∀F H' a' w',K F H'->Rel n S0 w0 H0 F H' a' w'->K' a' w') (h:iP P G ρ H o.op fun x=>K (upd ρ o.dst (wr G x)) H):
   zV P ops o a w K' Q':=by
 obtain⟨z,X,hg⟩:=EJ (V▸hb) U J.rows h;refine⟨fun O=>?_,fun O=>?_⟩
 . have E:=I.1 O
   obtain⟨v,hv,hr⟩:=hg E;exact fA (hr w (Agree.refl S H w) o rfl) (hK _ _ _ _ X (Rel.step J U Y Z hd V J (Grow.refl S w) (fS.refl _ _) (fW E hv)))
 . have E:¬gt G:=fun h=>by rw[I.2 h]at O;simp at O
   exact hK _ _ _ _ X (Rel.step J U Y Z hd V J (Grow.refl S w) (fS.refl _ _) (fE E))
theorem oZ(F:St S w H){r:Option Row}:fS S.N H (aI H S.N r):=fun k E h=>by rw[aF _ _ _ _ (Nat.ne_of_lt E)];exact h
theorem ahK(t:TypeId)(v:Value)(w:World):(Instr.box t v).run P w=.ok (.pointer (some ⟨w.heap.size,0,none⟩)) (w.alloc (.cells v.cells t)):=by
 simp[Instr.box,newVar,newRow]
theorem WZ{t:TypeId}{z:List AV}(h:dU P t=some z)(F:Value)(w:World):∃(v:Value) (i:TypeInfo),P.info? t=some i/\z=v.cells.toList.map rI/\(∀u∈v.cells.toList,u.oneCell'=true)/\v.cells.size≠0 /\
   (Instr.alloc t true F).run P w=.ok (.pointer (some ⟨w.heap.size,0,none⟩)) (w.alloc (.cells v.cells t)):=by
 obtain⟨i,v,hi,O,J,I,E,h1⟩:=oB h;refine⟨v,i,hi,J,h1,by rw[I];exact E,?_⟩;simp[Instr.alloc,zeroValue,typeInfo,hi,O,newVar,newRow]
theorem D2(J:St S w H){t:TypeId}{cs:List AV}{l:List Value}(E:0<cs.length)(I:bG S w cs l)(h1:∀u∈l,u.oneCell'=true):
   ∃S',St S' (w.alloc (.cells l.toArray t)) (aI H S.N (some ⟨t,cs.length,[cs]⟩))/\Grow S w S' (w.alloc (.cells l.toArray t))/\rep S' (w.alloc (.cells l.toArray t)) (.op S.N 0 0) (.pointer (some ⟨w.heap.size,0,none⟩)):=by
 have F:=iC _ _ I;have:=J.newRow (e:=t) (sz:=cs.length) (cap:=1) (es:=[cs]) (xs:=l) (cur:=l.toArray) E (by simp) (by simpa using I) h1 (by simp) (by simp[maxLen]) (by simp[F]) (by simp[<-F]) (w':=w.alloc (.cells l.toArray t)) rfl rfl rfl rfl;refine⟨_,this.1,this.2,?_⟩;simp only[rep,Sg.addRow];exact⟨Nat.lt_succ_self _,w.heap.size,1,1,by simp,by simp⟩
theorem HH:∀(i n:Nat),Mp i n=List.range' i n
 | _,0=>rfl
 | i,n+1=>by simp[Mp,List.range'_succ,HH (i+1) n]
theorem Jh{sz n:Nat}:∀(l:List (Nat×List AV)) (vs:List (Nat×Value)) (i:Nat) (A:Array Value),l.map (·.1)=Mp i l.length->cZ sz (l.map (·.2))->l.length=vs.length ->
   (∀(j k:Nat) (c:List AV),l[j]?=some (k,c)->∃(v:Value) (l':List Value),vs[j]?=some (k,v)/\v.cells=List.toArray l'/\bG S w c l'/\∀u∈l',u.oneCell'=true)->A.size=n*sz->i+l.length=n ->
   ∃xs:List Value,Instr.fill (fun i=>some (i*sz,sz)) A vs=some (A.toList.take (i*sz)++xs).toArray/\bG S w (l.map (·.2)).flatten xs/\∀u∈xs,u.oneCell'=true
 | [],vs,i,A,_,_,hl,_,hA,hi=>by
   have:vs=[]:=List.eq_nil_of_length_eq_zero (by simpa using hl.symm);subst this;refine⟨[],?_,by simp[bG],by simp⟩;simp only[Instr.fill,List.append_nil];have:i=n:=by simpa using hi
   subst this;rw[List.take_of_length_le (by simp[hA])]
 | (k,c)::rest,vs,i,A,E,hlen,hl,hv,hA,hi=>by
   simp only[List.map_cons,List.length_cons,Mp,List.cons.injEq]at E;obtain⟨rfl,E⟩:=E;simp only[List.map_cons,cZ]at hlen;obtain⟨v,l',O,e2,V,e4⟩:=hv 0 k c (by simp);cases vs with
   | nil=>simp at O
   | cons q vs=>
     simp at O;subst O;have F:l'.length=sz:=by rw[iC _ _ V];exact hlen.1
     simp only[List.length_cons]at hi;have hm:(k+1)*sz<=n*sz:=Nat.mul_le_mul_right _ (by omega);rw[Nat.add_mul,Nat.one_mul]at hm;have U:=DE l' 0 A (k*sz) (by rw[F,hA];omega);simp only[Nat.add_zero]at U;obtain⟨xs,Y,Z,f3⟩:=Jh (n:=n) rest vs (k+1) (A.toList.take (k*sz)++l'++A.toList.drop (k*sz+l'.length)).toArray E hlen.2 (by simpa using hl) (fun j i c hj=>by simpa using hv (j+1) i c (by simpa using hj))
       (by simp only[List.size_toArray,List.length_append,List.length_take,List.length_drop,Array.length_toList,F,hA];omega) (by omega)
     refine⟨l'++xs,?_,?_,?_⟩
     . simp only[Instr.fill,e2,List.size_toArray,F]
       rw[if_neg (by simp[hA];omega)];have I:(Array.foldl (fun cs (x:Value×Nat)=>cs.setIfInBounds (k*sz+x.2) x.1) A l'.toArray.zipIdx)=(A.toList.take (k*sz)++l'++A.toList.drop (k*sz+l'.length)).toArray:=by
         rw[<-U,<-Array.foldl_toList];simp
       rw[I,Y]
       congr 2
       have X:List.take ((k+1)*sz) (A.toList.take (k*sz)++l'++A.toList.drop (k*sz+l'.length))=A.toList.take (k*sz)++l':=by
         rw[Nat.add_mul,Nat.one_mul,List.take_append_of_le_length (by rw[List.length_append,List.length_take,Array.length_toList,F,hA];omega),List.take_of_length_le (by rw[List.length_append,List.length_take,Array.length_toList,F,hA];omega)]
       rw[X,List.append_assoc]
     . simp only[List.map_cons,List.flatten_cons]
       exact dO _ _ _ _ V Z
     . intro u J
       rcases List.mem_append.1 J with J|J
       . exact e4 u J
       . exact f3 u J
theorem GQ{t e:TypeId}{sz U:Nat}(he:cF P t=some (e,sz,U)){l:List (Nat×List AV)}{E:Array (Nat×Value)}{m:Nat}(J:l.map (·.1)=Mp 0 m)(O:cZ sz (l.map (·.2)))(hl:l.length=E.toList.length)
   (hv:∀(j k:Nat) (c:List AV),l[j]?=some (k,c)->∃(v:Value) (l':List Value),E.toList[j]?=some (k,v)/\v.cells=List.toArray l'/\bG S w c l'/\∀u∈l',u.oneCell'=true) (hm:m*sz<=16777216):
   ∃xs:List Value,(Instr.buildSlice t m E).run P w=.ok (.slice (some ⟨w.heap.size,0,none⟩) m m) (w.alloc (.cells xs.toArray e))/\bG S w (l.map (·.2)).flatten xs/\(∀u∈xs,u.oneCell'=true)/\l.length=m/\xs.length=m*sz:=by
 obtain⟨I,z,hu,hi,rfl,_,ab,_,hz,ac⟩:=jD he;have X:l.length=m:=by
   have:=congrArg List.length J;simpa[HH]using this
 have F:∀xs:List Value,bG S w (l.map (·.2)).flatten xs->xs.length=m*I.size:=fun xs h=>by
   rw[iC _ _ h,pA _ (jC.1 O),List.length_map,X]
 subst X;obtain⟨xs,f1,f2,f3⟩:=Jh (n:=l.length) l E.toList 0 ((Array.range (l.length*I.size)).map (z.cells[·%z.cells.size]!)) J O hl hv (by simp) (by simp);simp only[Nat.zero_mul,List.take_zero,List.nil_append]at f1;refine⟨xs,?_,f2,f3,rfl,F xs f2⟩;have Y:¬l.length*I.size>2^24:=by simpa using hm
 by_cases h0:l.length*I.size=0
 . have V : l.length = 0 := by
     rcases Nat.mul_eq_zero.1 h0 with h|h
     . exact h
     . omega
   have aa:E.toList=[]:=List.eq_nil_of_length_eq_zero (by rw[<-hl,V]);have Z:xs=[]:=List.eq_nil_of_length_eq_zero (by rw[F xs f2,h0]);subst Z;simp[Instr.buildSlice,run_underlying hu,sizeOf,typeInfo,hi,h0,aa,Instr.fill,newRow,V];have:(Array.range 0).map (fun _=>(default:Value))=#[]:=Array.eq_empty_of_size_eq_zero (by simp);rw[this]
 . simp[Instr.buildSlice,run_underlying hu,sizeOf,typeInfo,hi,Y,h0,zeroValue,hz,newRow]
   rw[f1];simp
end
end Go.Aw
end
