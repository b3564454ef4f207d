import Derived.ArgAppend
import Derived.Deep.LoopGhost
import Derived.Test.YtohmomanmikphaaGreatDoorPl02
set_option linter.unusedSimpArgs false
set_option linter.unusedVariables false
set_option maxRecDepth 100000
section
namespace Go.Aw
open Go.RowKit
def qV(w:World)(g:Nat):Option (Array Value):=match w.heap[g]? with
 | some (.cells cs _ _)=>some cs
 | _=>none
def JW(S:Sg)(w:World):Prop:=∀t∈UT,S.ro t.1/\qV w t.1=some t.2
theorem JW.keep{S S':Sg}{w w':World}(h:JW S w)(E:S.le S')(F:fG S w w'):JW S' w':=fun t u=>
 ⟨E.ro _ (h t u).1,by unfold qV;rw[F t.1 (h t u).1];exact(h t u).2⟩
structure St(S:Sg)(w:World)(H:aH):Prop where
 ro_fz:∀k,S.ro k->S.fz k
 fz_lt:∀k,S.fz k->k<w.heap.size
 rows:yV S w H
 free:∀k r,H k=some r->∀g,blk (S.loc k)=some g->¬S.fz g
 disj:∀k k' r r',H k=some r->H k'=some r'->k≠k'->∀g,blk (S.loc k)=some g->blk (S.loc k')≠some g
 tabs:JW S w
structure Grow(S:Sg)(w:World)(S':Sg)(w':World):Prop where
 le:S.le S'
 fz:∀k,S.fz k->S'.fz k
 os:w'.os=w.os
 tape:w'.tape=w.tape
 output:w'.output=w.output
 size:w.heap.size<=w'.heap.size
 same:∀k,S.fz k->w'.heap[k]?=w.heap[k]?
 newro:∀k,S'.ro k->S.ro k\/¬S.fz k
theorem Grow.refl(S:Sg)(w:World):Grow S w S w:=⟨S.le_refl,fun _ h=>h,rfl,rfl,rfl,Nat.le_refl _,fun _ _=>rfl,fun _ h=>.inl h⟩
theorem Grow.trans{S S' I:Sg}{w w' F:World}(h:Grow S w S' w')(u:Grow S' w' I F):Grow S w I F:=
 ⟨Sg.le_trans h.le u.le,fun k E=>u.fz k (h.fz k E),u.os.trans h.os,u.tape.trans h.tape,u.output.trans h.output,Nat.le_trans h.size u.size,
   fun k E=>(u.same k (h.fz k E)).trans (h.same k E),
   fun k E=>by rcases u.newro k E with h1|h1;exact h.newro k h1;exact .inr fun J=>h1 (h.fz k J)⟩
def eY(N:Nat)(H H':aH):Prop:=∀k,k<N->H k=none->H' k=none
theorem eY.refl(N:Nat)(H:aH):eY N H H:=fun _ _ h=>h
theorem eY.trans{N E:Nat}{H H' u:aH}(h:eY N H H')(I:eY E H' u)(J:N<=E):eY N H u:=fun k F h0=>I k (Nat.lt_of_lt_of_le F J) (h k F h0)
section
variable{S S':Sg}{w w':World}{H H':aH}
theorem St.kept(u:St S w H)(F:∀k,S.fz k->w'.heap[k]?=w.heap[k]?):fG S w w':=fun k E=>F k (u.ro_fz k E)
theorem Grow.kept(u:St S w H)(E:Grow S w S' w'):fG S w w':=u.kept E.same
theorem St.fresh(u:St S w H):H S.N=none:=by
 cases h:H S.N with
 | none=>rfl
 | some r=>exact absurd (u.rows _ r h).lt (Nat.lt_irrefl _)
theorem RowOK.block_lt{k:Nat}{r:Row}(h:RowOK S w k r){g:Nat}(u:blk (S.loc k)=some g):g<w.heap.size:=by
 rcases h.own with⟨xs,E,_⟩|⟨I,ms,h1,F,_⟩
 . refine(E.lt g ?_).2
   rcases E.2 with⟨hv,_⟩|⟨_,_,_,hv,_⟩ <;> (rw[hv]at u |-;exact u)
 . rw[h1]at u
   injection u with u;subst u;exact(Array.getElem?_eq_some_iff.1 F).1
theorem CI(u:S.le S')(E:fG S w w'):∀(i:Nat) (es:List (List AV)) (ms:List MapEntry),kJ S w i es ms->kJ S' w' i es ms
 | _,[],_,h=>h
 | i,cs::r,ms,h=>by
   simp only[kJ]at h |-;obtain⟨m,t,rfl,h1,F,I⟩:=h;exact⟨m,t,rfl,h1,dR u E _ _ F,CI u E (i+1) r t I⟩
theorem RowOK.keep{k:Nat}{r:Row}(h:RowOK S w k r)(u:S.le S')(J:fG S w w')(O:∀g,blk (S.loc k)=some g->w'.heap[g]?=w.heap[g]?):RowOK S' w' k r:=by
 refine⟨Nat.lt_of_lt_of_le h.lt u.N,by rw[u.sz k h.lt];exact h.sz,h.pos,h.len,?_⟩;rcases h.own with⟨xs,I,Z,h1⟩|⟨g,ms,h1,F,E⟩
 . refine .inl ?_
   unfold J6;rw[u.loc k h.lt];refine⟨xs,⟨I.1,?_⟩,dR u J _ _ Z,h1⟩;rcases I.2 with F|⟨g,cap,cur,M,E,h4,T⟩
   . exact .inl F
   . exact .inr ⟨g,cap,cur,M,E,by rw[O g (by rw[M];rfl)];exact h4,T⟩
 . refine .inr ⟨g,ms,?_,?_,CI u J 0 _ _ E.1,E.2⟩
   . rw[u.loc k h.lt];exact h1
   . rw[O g (by rw[h1];rfl)];exact F
theorem FR.keep{ρ:Env}{a:Act}(h:FR S w ρ a)(u:S.le S')(F:fG S w w'):FR S' w' ρ a:=fun t E=>kG u F _ _ (h t E)
theorem FR.put{ρ:Env}{a:Act}(h:FR S w ρ a){d:Option Nat}{z:AV}{v:Value}(F:rep S w z v):FR S w (upd ρ d z) (a.put d v):=by
 intro t E;cases d with
 | none=>exact h t E
 | some d=>
   simp only[Act.put,upd]at E |-;have u:t<a.tmps.size:=by simpa using E
   by_cases e:t=d
   . subst e
     simpa[Array.getD,u]using F
   . have h1:=h t u
     have I:d≠t:=fun h=>e h.symm
     simp only[if_neg e];have:(a.tmps.setIfInBounds d v).getD t undef=a.tmps.getD t undef:=by
       simp[Array.getD_eq_getD_getElem?,Array.getElem?_setIfInBounds,I]
     rw[this];exact h1
def Sg.addRow(S:Sg)(v:Value)(sz:Nat):Sg:={ S with loc:=fun k=>if k=S.N then v else S.loc k,sz:=fun k=>if k=S.N then sz else S.sz k,N:=S.N+1 }
theorem Sg.le_addRow(S:Sg)(v:Value)(sz:Nat):S.le (S.addRow v sz):=
 ⟨fun _ h=>h,Nat.le_succ _,fun k u=>by simp[Sg.addRow,Nat.ne_of_lt u],fun k u=>by simp[Sg.addRow,Nat.ne_of_lt u]⟩
theorem gU{k:Nat}{r:Option Row}:aI H k r k=r:=aB H k r
theorem St.newRow(M:St S w H){e:TypeId}{sz cap:Nat}{es:List (List AV)}{xs:List Value}{cur:Array Value}(am:0<sz)(ad:∀cs∈es,cs.length=sz)
   (hr:bG S w es.flatten xs) (h1:∀u∈xs,u.oneCell'=true) (hn:es.length<=cap) (ah:cap<=maxLen) (ai:cur.size=cap*sz) (af:cur.toList.take (es.length*sz)=xs) {w':World}
   (hw:w'.heap=w.heap.push (.cells cur e)) (an:w'.os=w.os) (ae:w'.tape=w.tape) (ag:w'.output=w.output):
   St (S.addRow (.slice (some ⟨w.heap.size,0,none⟩) es.length cap) sz) w' (aI H S.N (some ⟨e,sz,es⟩))/\Grow S w (S.addRow (.slice (some ⟨w.heap.size,0,none⟩) es.length cap) sz) w':=by
 have T:∀k,k<w.heap.size->w'.heap[k]?=w.heap[k]?:=fun k F=>by rw[hw,Array.getElem?_push,if_neg (by omega)]
 have ak:w'.heap[w.heap.size]?=some (.cells cur e (0,0)):=by rw[hw];simp
 have ao:w'.heap.size=w.heap.size+1:=by rw[hw];simp
 have ac:=S.le_addRow (.slice (some ⟨w.heap.size,0,none⟩) es.length cap) sz;have O:fG S w w':=fun k F=>T k (M.fz_lt k (M.ro_fz k F))
 have E:(S.addRow (.slice (some ⟨w.heap.size,0,none⟩) es.length cap) sz).loc S.N=.slice (some ⟨w.heap.size,0,none⟩) es.length cap:=by simp[Sg.addRow]
 have aa:∀k,k<S.N->(S.addRow (.slice (some ⟨w.heap.size,0,none⟩) es.length cap) sz).loc k=S.loc k:=ac.loc;have I:∀k r,k≠S.N->aI H S.N (some ⟨e,sz,es⟩) k=some r->H k=some r:=fun k r F h=>by rwa [aD _ _ _ _ F]at h
 refine⟨⟨M.ro_fz,fun k F=>by have:=M.fz_lt k F;omega,?_,?_,?_,M.tabs.keep ac O⟩,⟨ac,fun _ h=>h,an,ae,ag,by omega,fun k F=>T k (M.fz_lt k F),fun _ h=>.inl h⟩⟩
 . intro k r F
   by_cases e0:k=S.N
   . subst e0
     rw[gU]at F;injection F with F;subst F;refine⟨Nat.lt_succ_self _,by simp[Sg.addRow],am,ad,.inl ⟨xs,⟨?_,.inr ⟨w.heap.size,cap,cur,E,Nat.zero_le _,ak,hn,ah,ai,af⟩⟩,dR ac O _ _ hr,h1⟩⟩;rw[gQ _ _ hr,nO es ad]
   . have J:=I k r e0 F
     exact(M.rows k r J).keep ac O fun g hg=>T g ((M.rows k r J).block_lt hg)
 . intro k r F g hg
   by_cases e0:k=S.N
   . subst e0
     rw[E]at hg;simp only[blk,Option.some.injEq]at hg;subst hg;exact fun h=>Nat.lt_irrefl _ (M.fz_lt _ h)
   . have J:=I k r e0 F
     rw[aa k (M.rows k r J).lt]at hg;exact M.free k r J g hg
 . intro k k' r r' F J al g hg Z
   by_cases e0:k=S.N
   . subst e0
     rw[E]at hg;simp only[blk,Option.some.injEq]at hg;subst hg;have ab:=I k' r' (Ne.symm al) J;rw[aa k' (M.rows k' r' ab).lt]at Z;exact Nat.lt_irrefl _ ((M.rows k' r' ab).block_lt Z)
   . have ab:=I k r e0 F
     rw[aa k (M.rows k r ab).lt]at hg;by_cases e1:k'=S.N
     . subst e1
       rw[E]at Z;simp only[blk,Option.some.injEq]at Z;subst Z;exact Nat.lt_irrefl _ ((M.rows k r ab).block_lt hg)
     . have aj:=I k' r' e1 J
       rw[aa k' (M.rows k' r' aj).lt]at Z;exact M.disj k k' r r' ab aj al g hg Z
theorem St.newMap(I:St S w H){w':World}(hw:w'.heap=w.heap.push (.map #[] 0))(ah:w'.os=w.os)(ac:w'.tape=w.tape)(ad:w'.output=w.output):
   St (S.addRow (.map (some w.heap.size)) 2) w' (aI H S.N (some ⟨0,2,[]⟩))/\Grow S w (S.addRow (.map (some w.heap.size)) 2) w':=by
 have M:∀k,k<w.heap.size->w'.heap[k]?=w.heap[k]?:=fun k E=>by rw[hw,Array.getElem?_push,if_neg (by omega)]
 have af:w'.heap[w.heap.size]?=some (.map #[] 0):=by rw[hw];simp
 have ai:w'.heap.size=w.heap.size+1:=by rw[hw];simp
 have T:=S.le_addRow (.map (some w.heap.size)) 2;have ab:fG S w w':=fun k E=>M k (I.fz_lt k (I.ro_fz k E))
 have u:(S.addRow (.map (some w.heap.size)) 2).loc S.N=.map (some w.heap.size):=by simp[Sg.addRow]
 have F:∀k r,k≠S.N->aI H S.N (some ⟨0,2,[]⟩) k=some r->H k=some r:=fun k r E h=>by rwa [aD _ _ _ _ E]at h
 refine⟨⟨I.ro_fz,fun k E=>by have:=I.fz_lt k E;omega,?_,?_,?_,I.tabs.keep T ab⟩,⟨T,fun _ h=>h,ah,ac,ad,by omega,fun k E=>M k (I.fz_lt k E),fun _ h=>.inl h⟩⟩
 . intro k r E
   by_cases e0:k=S.N
   . subst e0
     rw[gU]at E;injection E with E;subst E;exact⟨Nat.lt_succ_self _,by simp[Sg.addRow],by simp,by simp,.inr ⟨w.heap.size,[],u,af,by simp[kJ],rfl⟩⟩
   . have J:=F k r e0 E
     exact(I.rows k r J).keep T ab fun g Z=>M g ((I.rows k r J).block_lt Z)
 . intro k r E g Z
   by_cases e0:k=S.N
   . subst e0
     rw[u]at Z;simp only[blk,Option.some.injEq]at Z;subst Z;exact fun h=>Nat.lt_irrefl _ (I.fz_lt _ h)
   . have J:=F k r e0 E
     rw[T.loc k (I.rows k r J).lt]at Z;exact I.free k r J g Z
 . intro k k' r r' E J ag g Z O
   by_cases e0:k=S.N
   . subst e0
     rw[u]at Z;simp only[blk,Option.some.injEq]at Z;subst Z;have aa:=F k' r' (Ne.symm ag) J;rw[T.loc k' (I.rows k' r' aa).lt]at O;exact Nat.lt_irrefl _ ((I.rows k' r' aa).block_lt O)
   . have aa:=F k r e0 E
     rw[T.loc k (I.rows k r aa).lt]at Z;by_cases e1:k'=S.N
     . subst e1
       rw[u]at O;simp only[blk,Option.some.injEq]at O;subst O;exact Nat.lt_irrefl _ ((I.rows k r aa).block_lt Z)
     . have ae:=F k' r' e1 J
       rw[T.loc k' (I.rows k' r' ae).lt]at O;exact I.disj k k' r r' aa ae ag g Z O
theorem St.setMap(M:St S w H){k g:Nat}{r:Row}(hk:H k=some r)(hl:S.loc k=.map (some g)){ms:List MapEntry}{es:List (List AV)}(he:kJ S w 0 es ms)(h2:r.sz=2)(af:g<w.heap.size):
   St S { w with heap:=w.heap.setIfInBounds g (.map ms.toArray ms.length) } (aI H k (some { r with es:=es }))/\Grow S w S { w with heap:=w.heap.setIfInBounds g (.map ms.toArray ms.length) }:=by
 have hR:=M.rows k r hk;have ab:¬S.fz g:=M.free k r hk g (by rw[hl];rfl);have F:∀j,j≠g->(w.heap.setIfInBounds g (.map ms.toArray ms.length))[j]?=w.heap[j]?:=fun j u=>by rw[Array.getElem?_setIfInBounds,if_neg (Ne.symm u)]
 have ac:(w.heap.setIfInBounds g (.map ms.toArray ms.length))[g]?=some (.map ms.toArray ms.length):=by rw[Array.getElem?_setIfInBounds];simp[af]
 have E:fG S w { w with heap:=w.heap.setIfInBounds g (.map ms.toArray ms.length) }:=fun j u=>F j (fun e=>ab (e▸M.ro_fz j u))
 have p:∀j r',aI H k (some { r with es:=es }) j=some r'->∃O,H j=some O:=fun j r' u=>by
   by_cases e:j=k
   . subst e;exact⟨r,hk⟩
   . rw[aD _ _ _ _ e]at u;exact⟨_,u⟩
 have aa:∀(i:Nat) (es:List (List AV)) (ms:List MapEntry),kJ S w i es ms->∀cs∈es,cs.length=2:=by
   intro i es;induction es generalizing i with
   | nil=>simp
   | cons c es ih=>
     intro ms h cs J;simp only[kJ]at h;obtain⟨m,t,rfl,_,h4,h5⟩:=h;rcases List.mem_cons.1 J with rfl|J
     . have:=gQ _ _ h4;simpa using this.symm
     . exact ih (i+1) t h5 cs J
 refine⟨⟨M.ro_fz,fun j u=>by simpa using M.fz_lt j u,?_,?_,?_,M.tabs.keep S.le_refl E⟩,⟨S.le_refl,fun _ h=>h,rfl,rfl,rfl,by simp,fun j u=>F j (fun e=>ab (e▸u)),fun _ h=>.inl h⟩⟩
 . intro j r' u
   by_cases e:j=k
   . subst e
     rw[gU]at u;injection u with u;subst u;exact⟨hR.lt,hR.sz,hR.pos,fun cs J=>(aa 0 es ms he cs J).trans h2.symm,.inr ⟨g,ms,hl,ac,CI S.le_refl E 0 _ _ he,h2⟩⟩
   . rw[aD _ _ _ _ e]at u
     exact(M.rows j r' u).keep S.le_refl E fun Z I=>F Z (fun e'=>M.disj j k r' r u hk e Z I (by rw[hl,e'];rfl))
 . intro j r' u Z I
   obtain⟨O,T⟩:=p j r' u;exact M.free j O T Z I
 . intro j j' r1 r2 u T ad Z I ah
   obtain⟨q1,ae⟩:=p j r1 u;obtain⟨q2,ag⟩:=p j' r2 T;exact M.disj j j' q1 q2 ae ag ad Z I ah
theorem St.nilRow(T:St S w H)(e:TypeId){sz:Nat}(ac:0<sz):
   St (S.addRow (.slice none 0 0) sz) w (aI H S.N (some ⟨e,sz,[]⟩))/\Grow S w (S.addRow (.slice none 0 0) sz) w:=by
 have F:=S.le_addRow (.slice none 0 0) sz;have u:(S.addRow (.slice none 0 0) sz).loc S.N=.slice none 0 0:=by simp[Sg.addRow]
 have E:∀k r,k≠S.N->aI H S.N (some ⟨e,sz,[]⟩) k=some r->H k=some r:=fun k r J h=>by rwa [aD _ _ _ _ J]at h
 refine⟨⟨T.ro_fz,T.fz_lt,?_,?_,?_,T.tabs.keep F (fG.refl S w)⟩,⟨F,fun _ h=>h,rfl,rfl,rfl,Nat.le_refl _,fun _ _=>rfl,fun _ h=>.inl h⟩⟩
 . intro k r J
   by_cases Z:k=S.N
   . subst Z
     rw[gU]at J;injection J with J;subst J;refine⟨Nat.lt_succ_self _,by simp[Sg.addRow],ac,by simp,.inl ⟨[],⟨by simp,.inl ⟨u,rfl⟩⟩,by simp[bG],by simp⟩⟩
   . have I:=E k r Z J
     exact(T.rows k r I).keep F (fG.refl S w) fun _ _=>rfl
 . intro k r J g M
   by_cases Z:k=S.N
   . subst Z
     rw[u]at M;simp[blk]at M
   . have I:=E k r Z J
     rw[F.loc k (T.rows k r I).lt]at M;exact T.free k r I g M
 . intro k k' r r' J I ad g M O
   by_cases Z:k=S.N
   . subst Z
     rw[u]at M;simp[blk]at M
   . have ab:=E k r Z J
     rw[F.loc k (T.rows k r ab).lt]at M;by_cases e1:k'=S.N
     . subst e1
       rw[u]at O;simp[blk]at O
     . have aa:=E k' r' e1 I
       rw[F.loc k' (T.rows k' r' aa).lt]at O;exact T.disj k k' r r' ab aa ad g M O
def Sg.addRo(S:Sg)(g:Nat):Sg:={ S with ro:=fun k=>S.ro k\/k=g,fz:=fun k=>S.fz k\/k=g }
theorem Sg.le_addRo(S:Sg)(g:Nat):S.le (S.addRo g):=⟨fun _ h=>.inl h,Nat.le_refl _,fun _ _=>rfl,fun _ _=>rfl⟩
theorem St.newRo(F:St S w H){o:Obj}{w':World}(hw:w'.heap=w.heap.push o)(aa:w'.os=w.os)(J:w'.tape=w.tape)(T:w'.output=w.output):
   St (S.addRo w.heap.size) w' H/\Grow S w (S.addRo w.heap.size) w':=by
 have E:∀k,k<w.heap.size->w'.heap[k]?=w.heap[k]?:=fun k u=>by rw[hw,Array.getElem?_push,if_neg (by omega)]
 have ab:w'.heap.size=w.heap.size+1:=by rw[hw];simp
 have M:=S.le_addRo w.heap.size;have I:fG S w w':=fun k u=>E k (F.fz_lt k (F.ro_fz k u))
 refine⟨⟨fun k u=>u.imp (F.ro_fz k) id,fun k u=>?_,fun k r u=>(F.rows k r u).keep M I fun g Z=>E g ((F.rows k r u).block_lt Z),fun k r u g Z O=>?_,F.disj,F.tabs.keep M I⟩,
   ⟨M,fun _ h=>.inl h,aa,J,T,by omega,fun k u=>E k (F.fz_lt k u),fun k u=>u.imp id (fun e O=>by have:=F.fz_lt k O;omega)⟩⟩
 . rcases u with u|u
   . have:=F.fz_lt k u;omega
   . omega
 . rcases O with O|O
   . exact F.free k r u g Z O
   . have:=(F.rows k r u).block_lt Z;omega
theorem RowOK.open{k:Nat}{r:Row}(h:RowOK S w k r){F:Option Addr}{n0 c0:Nat}(I:S.loc k=.slice F n0 c0)(E:r.es≠[]):∃g cap cur,S.loc k=.slice (some ⟨g,0,none⟩) r.es.length cap/\w.heap[g]?=some (.cells cur r.e (0,0))/\r.es.length<=cap/\cap<=maxLen/\cur.size=cap*r.sz /\
   bG S w r.es.flatten (cur.toList.take (r.es.length*r.sz))/\∀u∈cur.toList.take (r.es.length*r.sz),u.oneCell'=true:=by
 obtain⟨xs,M,Z,h1⟩:=h.sl I;rcases M.2 with⟨_,hn⟩|⟨g,cap,cur,hv,_,J,h3,h4,O,T⟩
 . exact absurd (List.eq_nil_of_length_eq_zero hn) E
 . subst T
   exact⟨g,cap,cur,hv,J,h3,h4,O,Z,h1⟩
theorem xV:∀(es:List (List AV)) (i:Nat) (cs:List AV) {sz:Nat},(∀c∈es,c.length=sz)->i<es.length->cs.length=sz ->
   (es.set i cs).flatten=es.flatten.take (i*sz)++cs++es.flatten.drop (i*sz+sz)
 | [],_,_,_,_,h,_=>by simp at h
 | x::r,0,cs,sz,hl,_,u=>by
   have E:=hl x (by simp);simp[<-E]
 | x::r,i+1,cs,sz,hl,hi,u=>by
   have E:=hl x (by simp);have ih:=xV r i cs (fun c u=>hl c (by simp[u])) (by simpa using hi) u;simp only[List.set_cons_succ,List.flatten_cons,ih];have F:(i+1)*sz=x.length+i*sz:=by rw[E,Nat.add_mul];omega
   rw[F,Nat.add_assoc,List.take_append,List.drop_append];simp[List.take_of_length_le,List.drop_eq_nil_of_le,Nat.add_assoc]
theorem St.store(M:St S w H){k:Nat}{r:Row}(hk:H k=some r){i f:Nat}{cs:List AV}{l:List Value}(hi:i<r.es.length)(hf:f+cs.length<=r.sz){al:Option Addr}{n0 c0:Nat}(am:S.loc k=.slice al n0 c0)
   (hr:bG S w cs l) (h1:∀u∈l,u.oneCell'=true):
   ∃g n c w',S.loc k=.slice (some ⟨g,0,none⟩) n c/\(∀P:Program,(storeCells ⟨g,i*r.sz+f,none⟩ l).run P w=.ok () w') /\
     St S w' (aI H k (some { r with es:=r.es.set i (oF (r.es.getD i []) f cs) }))/\Grow S w S w':=by
 have Z:=M.rows k r hk;have ao:r.es≠[]:=fun e=>by rw[e]at hi;simp at hi
 obtain⟨g,cap,cur,I,hg,ae,aw,ax,ah,ac⟩:=Z.open am ao;have ag:=gQ _ _ hr;have af:(i+1)*r.sz<=r.es.length*r.sz:=Nat.mul_le_mul_right _ hi;have av:r.es.length*r.sz<=cap*r.sz:=Nat.mul_le_mul_right _ ae;rw[Nat.add_mul,Nat.one_mul]at af;have ai:∀P:Program,_:=fun P=>run_storeCells_at (P:=P) g (i*r.sz+f) r.e l 0 cur w hg (by rw[ag,ax];omega) h1
 simp only[Nat.add_zero]at ai;refine⟨g,_,cap,_,I,ai,?_,?_⟩
 . have O:∀j,j≠g->(w.setRow g (List.take (i*r.sz+f) cur.toList++l++List.drop (i*r.sz+f+l.length) cur.toList).toArray).heap[j]?=w.heap[j]?:=fun j E=>setRow_other w g j _ E
   have ar:¬S.fz g:=M.free k r hk g (by rw[I];rfl);have F:fG S w (w.setRow g (List.take (i*r.sz+f) cur.toList++l++List.drop (i*r.sz+f+l.length) cur.toList).toArray):=fun j E=>O j (fun e=>ar (e▸M.ro_fz j E))
   have ab:(r.es.getD i []).length=r.sz:=by
     simp only[List.getD,List.getElem?_eq_getElem hi,Option.getD_some];exact Z.len _ (List.getElem_mem hi)
   have aa:(oF (r.es.getD i []) f cs).length=r.sz:=by
     simp only[oF,List.length_append,List.length_take,List.length_drop,ab];omega
   have e2 : List.take (r.es.length * r.sz) (List.take (i * r.sz + f) cur.toList ++ l ++ List.drop (i * r.sz + f + l.length) cur.toList) =
       (cur.toList.take (r.es.length*r.sz)).take (i*r.sz+f)++l++(cur.toList.take (r.es.length*r.sz)).drop (i*r.sz+f+l.length):=by
     rw[List.take_take,Nat.min_eq_left (by omega),List.drop_take];rw[List.take_append,List.take_append];simp only[List.length_append,List.length_take,Array.length_toList];rw[Nat.min_eq_left (by omega:i*r.sz+f<=cur.size)];rw[List.take_of_length_le (l:=List.take (i*r.sz+f) cur.toList) (by simp;omega),List.take_of_length_le (l:=l) (by omega)]
   refine⟨M.ro_fz,fun j E=>by simpa using M.fz_lt j E,?_,?_,?_,M.tabs.keep S.le_refl F⟩
   . intro j r' E
     by_cases e:j=k
     . subst e
       rw[gU]at E;injection E with E;subst E;refine⟨Z.lt,Z.sz,Z.pos,?_,.inl ?_⟩
       . intro c hc
         rcases List.mem_or_eq_of_mem_set hc with hc|rfl
         . exact Z.len c hc
         . exact aa
       . refine⟨(List.take (i*r.sz+f) cur.toList++l++List.drop (i*r.sz+f+l.length) cur.toList).take (r.es.length*r.sz),⟨?_,.inr ⟨g,cap,_,by simpa using I,Nat.zero_le _,setRow_heap w g cur _ _ _ hg,by simpa using ae,aw,?_,by simp⟩⟩,?_,?_⟩
         . simp only[List.length_set,List.length_take,List.length_append,List.length_drop,Array.length_toList]
           omega
         . simp only[List.size_toArray,List.length_append,List.length_take,List.length_drop,Array.length_toList]
           omega
         . have hx:=(dR (S.le_refl) F _ _ ah)
           have hy:=(dR (S.le_refl) F _ _ hr);have e1:(r.es.set i (oF (r.es.getD i []) f cs)).flatten=r.es.flatten.take (i*r.sz+f)++cs++r.es.flatten.drop (i*r.sz+f+l.length):=by
             rw[xV r.es i _ Z.len hi aa];have aq:r.es.flatten.length=r.es.length*r.sz:=nO _ Z.len;have ad:r.es.getD i []=(r.es.flatten.drop (i*r.sz)).take r.sz:=by
               have h0:=xV r.es i (r.es.getD i []) Z.len hi ab;have hs:r.es.set i (r.es.getD i [])=r.es:=by
                 simp only[List.getD,List.getElem?_eq_getElem hi,Option.getD_some];exact List.set_getElem_self hi
               rw[hs]at h0;have h3:(r.es.flatten.drop (i*r.sz)).take r.sz=((r.es.flatten.take (i*r.sz)++r.es.getD i []++r.es.flatten.drop (i*r.sz+r.sz)).drop (i*r.sz)).take r.sz:=by rw[<-h0]
               rw[h3,List.append_assoc,List.drop_append_of_le_length (by rw[List.length_take];omega)];rw[List.drop_eq_nil_of_le (by rw[List.length_take];omega),List.nil_append,List.take_append_of_le_length (by omega),List.take_of_length_le (by omega)]
             rw[ad,oF];have a1:List.take (i*r.sz+f) r.es.flatten=r.es.flatten.take (i*r.sz)++((r.es.flatten.drop (i*r.sz)).take r.sz).take f:=by
               rw[List.take_take,Nat.min_eq_left (by omega),List.take_add]
             have a2:r.es.flatten.drop (i*r.sz+f+l.length)=((r.es.flatten.drop (i*r.sz)).take r.sz).drop (f+cs.length)++r.es.flatten.drop (i*r.sz+r.sz):=by
               rw[List.drop_take,List.drop_drop,<-ag,<-Nat.add_assoc];have:List.drop (i*r.sz+r.sz) r.es.flatten=(List.drop (i*r.sz+f+l.length) r.es.flatten).drop (r.sz-(f+l.length)):=by
                 rw[List.drop_drop];congr 1;omega
               rw[this,List.take_append_drop]
             rw[a1,a2];simp only[List.append_assoc]
           rw[e1];rw[e2];exact dI _ _ _ _ (dI _ _ _ _ (qN _ _ _ hx) hy) (uQ _ _ _ hx)
         . intro u T
           rw[e2]at T;simp only[List.mem_append]at T;rcases T with(T|T)|T
           . exact ac u (List.mem_of_mem_take T)
           . exact h1 u T
           . exact ac u (List.mem_of_mem_drop T)
     . rw[aD _ _ _ _ e]at E
       exact(M.rows j r' E).keep S.le_refl F fun g' J=>O g' (fun e'=>M.disj j k r' r E hk e g' J (by rw[I,e'];rfl))
   . intro j r' E g' J
     by_cases e:j=k
     . subst e;exact M.free j r hk g' J
     . rw[aD _ _ _ _ e]at E;exact M.free j r' E g' J
   . intro j j' r1 r2 E au aj g' J ay
     have p:∀j r',aI H k (some { r with es:=r.es.set i (oF (r.es.getD i []) f cs) }) j=some r'->∃ak,H j=some ak:=fun j r' E=>by
       by_cases e:j=k
       . subst e;exact⟨r,hk⟩
       . rw[aD _ _ _ _ e]at E;exact⟨_,E⟩
     obtain⟨q1,an⟩:=p j r1 E;obtain⟨q2,ap⟩:=p j' r2 au;exact M.disj j j' q1 q2 an ap aj g' J ay
 . refine⟨S.le_refl,fun _ h=>h,rfl,rfl,rfl,by simp,fun j E=>setRow_other w g j _ (fun e=>M.free k r hk g (by rw[I];rfl) (e▸E)),fun _ h=>.inl h⟩
end
end Go.Aw
end
section
namespace Go.Aw
open Go.RowKit
section
variable{P:Program}{S S':Sg}{w w':World}{H H':aH}
def xM(S:Sg)(w:World)(u:Value)(news:List (List AV)):Prop:=
 ∃ad c l,u=.slice ad news.length c/\bG S w news.flatten l/\(∀x∈l,x.oneCell'=true) /\
   (news=[]\/∃b o,ad=some ⟨b,o,none⟩/\∀j x,l[j]?=some x->w.cell? ⟨b,o+j,none⟩=some x)
theorem JZ{es:List (List AV)}{u:Value}(h:rep S w (.sl es) u):xM S w u es:=by
 simp only[rep]at h;obtain⟨J,n,c,rfl,rfl,_,_,F⟩:=h;rcases F with rfl|⟨b,o,sz,rfl,Z,T,E⟩
 . exact⟨J,c,[],rfl,by simp[bG],by simp,.inl rfl⟩
 . obtain⟨l,e1,O,M,I⟩:=lO _ _ (vQ es o E)
   exact⟨_,c,l,rfl,O,M,.inr ⟨b,o,rfl,I⟩⟩
theorem KH{k:Nat}{r:Row}(h:RowOK S w k r){Z:Option Addr}{T M:Nat}(O:S.loc k=.slice Z T M):xM S w (S.loc k) r.es:=by
 obtain⟨xs,E,I,h1⟩:=h.sl O;rcases E.2 with⟨u,F⟩|⟨g,cap,cur,u,_⟩
 . have J:=List.eq_nil_of_length_eq_zero F
   have hx:xs=[]:=List.eq_nil_of_length_eq_zero (by rw[E.1,F];simp);exact⟨none,0,xs,by rw[u,F],I,h1,.inl J⟩
 . refine⟨some ⟨g,0,none⟩,cap,xs,u,I,h1,.inr ⟨g,0,rfl,fun j x hj=>?_⟩⟩
   have:=E.cells (g:=g) (by rw[u];rfl) j x hj
   rwa [Addr.add_lit]at this
theorem CX{k a b:Nat}{r:Row}{u:Value}(hk:RowOK S w k r)(hu:rep S w (.oz k a b) u):xM S w u ((r.es.take b).drop a)/\b<=r.es.length/\a<=b:=by
 simp only[rep]at hu;obtain⟨_,ad,n,c,ab,cc,E,rfl,aa,I,Z,_⟩:=hu;obtain⟨xs,ho,hr,h1⟩:=hk.sl E;have hn:n=r.es.length:=by
   rcases ho.2 with⟨T,hn⟩|⟨g,cap,cur,T,_⟩
   . rw[E]at T;injection T with _ h2 _;omega
   . rw[E]at T;injection T
 subst hn;refine⟨?_,I,aa⟩;have F:((r.es.take b).drop a).length=b-a:=by simp;omega
 rcases Nat.lt_or_ge a b with ac|af
 . obtain⟨g,rfl,rfl⟩:=Z ac
   have ae:r.es≠[]:=fun e=>by rw[e]at I;simp at I;omega
   obtain⟨g',n',c',O,M,_⟩:=hk.els E ae;rw[E]at O;injection O with J _ _;injection J with J;injection J with J;subst J;have h2:=AO _ 0 a (wH r.es 0 b M);rw[Nat.zero_add,hk.sz]at h2;obtain⟨l,q1,q2,q3,q4⟩:=lO _ _ (vQ _ _ h2);exact⟨_,cc,l,by rw[F],q2,q3,.inr ⟨g,a*S.sz k,rfl,q4⟩⟩
 . have he:(r.es.take b).drop a=[]:=List.eq_nil_of_length_eq_zero (by omega)
   exact⟨ab,cc,[],by rw[F],by rw[he];simp[bG],by simp,.inl he⟩
theorem vY:∀(es:List (List AV)) (a:Nat) {sz:Nat},(∀c∈es,c.length=sz)->(es.take a).flatten=es.flatten.take (a*sz)
 | [],_,_,_=>by simp
 | x::r,0,_,_=>by simp
 | x::r,a+1,sz,hl=>by
   have u:=hl x (by simp);rw[List.take_succ_cons,List.flatten_cons,List.flatten_cons,vY r a (fun c E=>hl c (by simp[E])),Nat.add_mul,Nat.one_mul,List.take_append,u];rw[List.take_of_length_le (l:=x) (by omega)]
   congr 2
   omega
theorem A9:∀(es:List (List AV)) (a:Nat) {sz:Nat},(∀c∈es,c.length=sz)->(es.drop a).flatten=es.flatten.drop (a*sz)
 | [],_,_,_=>by simp
 | x::r,0,_,_=>by simp
 | x::r,a+1,sz,hl=>by
   have u:=hl x (by simp);rw[List.drop_succ_cons,List.flatten_cons,A9 r a (fun c E=>hl c (by simp[E])),Nat.add_mul,Nat.one_mul,List.drop_append,u];rw[List.drop_eq_nil_of_le (as:=x) (by omega),List.nil_append]
   congr 1
   omega
theorem St.storeE(M:St S w H){k:Nat}{r:Row}(hk:H k=some r){a:Nat}{news:List (List AV)}{l:List Value}(ab:∀c∈news,c.length=r.sz)(ha:a+news.length<=r.es.length)(ah:r.es≠[]){al:Option Addr}{n0 c0:Nat}(am:S.loc k=.slice al n0 c0)
   (hr:bG S w news.flatten l) (h1:∀u∈l,u.oneCell'=true):
   ∃g n c w',S.loc k=.slice (some ⟨g,0,none⟩) n c/\(∀P:Program,(storeCells ⟨g,a*r.sz,none⟩ l).run P w=.ok () w') /\
     St S w' (aI H k (some { r with es:=r.es.take a++news++r.es.drop (a+news.length) }))/\Grow S w S w':=by
 have hR:=M.rows k r hk;obtain⟨g,cap,cur,I,hg,ag,ar,au,af,ac⟩:=hR.open am ah;have ae:l.length=news.length*r.sz:=by rw[gQ _ _ hr,nO news ab]
 have ad:(a+news.length)*r.sz<=r.es.length*r.sz:=Nat.mul_le_mul_right _ ha;have ap:r.es.length*r.sz<=cap*r.sz:=Nat.mul_le_mul_right _ ag;rw[Nat.add_mul]at ad;have ai:∀P:Program,_:=fun P=>run_storeCells_at (P:=P) g (a*r.sz) r.e l 0 cur w hg (by rw[ae,au];omega) h1
 simp only[Nat.add_zero]at ai;refine⟨g,_,cap,_,I,ai,?_,?_⟩
 . have O:∀j,j≠g->(w.setRow g (List.take (a*r.sz) cur.toList++l++List.drop (a*r.sz+l.length) cur.toList).toArray).heap[j]?=w.heap[j]?:=fun j E=>setRow_other w g j _ E
   have an:¬S.fz g:=M.free k r hk g (by rw[I];rfl);have F:fG S w (w.setRow g (List.take (a*r.sz) cur.toList++l++List.drop (a*r.sz+l.length) cur.toList).toArray):=fun j E=>O j (fun e=>an (e▸M.ro_fz j E))
   have aa:(r.es.take a++news++r.es.drop (a+news.length)).length=r.es.length:=by simp;omega
   have e2 : List.take (r.es.length * r.sz) (List.take (a * r.sz) cur.toList ++ l ++ List.drop (a * r.sz + l.length) cur.toList) =
       (cur.toList.take (r.es.length*r.sz)).take (a*r.sz)++l++(cur.toList.take (r.es.length*r.sz)).drop (a*r.sz+l.length):=by
     rw[List.take_take,Nat.min_eq_left (by omega),List.drop_take];rw[List.take_append,List.take_append];simp only[List.length_append,List.length_take,Array.length_toList];rw[Nat.min_eq_left (by omega:a*r.sz<=cur.size)];rw[List.take_of_length_le (l:=List.take (a*r.sz) cur.toList) (by simp;omega),List.take_of_length_le (l:=l) (by omega)]
   refine⟨M.ro_fz,fun j E=>by simpa using M.fz_lt j E,?_,?_,?_,M.tabs.keep S.le_refl F⟩
   . intro j r' E
     by_cases e:j=k
     . subst e
       rw[gU]at E;injection E with E;subst E;refine⟨hR.lt,hR.sz,hR.pos,?_,.inl ?_⟩
       . intro c T
         rcases List.mem_append.1 T with T|T
         . rcases List.mem_append.1 T with T|T
           . exact hR.len c (List.mem_of_mem_take T)
           . exact ab c T
         . exact hR.len c (List.mem_of_mem_drop T)
       . refine⟨(List.take (a*r.sz) cur.toList++l++List.drop (a*r.sz+l.length) cur.toList).take (r.es.length*r.sz),⟨?_,.inr ⟨g,cap,_,by rw[aa];exact I,Nat.zero_le _,setRow_heap w g cur _ _ _ hg,by rw[aa];exact ag,ar,?_,by rw[aa]⟩⟩,?_,?_⟩
         . rw[aa]
           simp only[List.length_take,List.length_append,List.length_drop,Array.length_toList];omega
         . simp only[List.size_toArray,List.length_append,List.length_take,List.length_drop,Array.length_toList]
           omega
         . have hx:=(dR (S.le_refl) F _ _ af)
           have hy:=(dR (S.le_refl) F _ _ hr);have e1:(r.es.take a++news++r.es.drop (a+news.length)).flatten=r.es.flatten.take (a*r.sz)++news.flatten++r.es.flatten.drop (a*r.sz+l.length):=by
             rw[List.flatten_append,List.flatten_append,vY _ _ hR.len,A9 _ _ hR.len,Nat.add_mul,ae]
           rw[e1,e2];exact dI _ _ _ _ (dI _ _ _ _ (qN _ _ _ hx) hy) (uQ _ _ _ hx)
         . intro u Z
           rw[e2]at Z;simp only[List.mem_append]at Z;rcases Z with(Z|Z)|Z
           . exact ac u (List.mem_of_mem_take Z)
           . exact h1 u Z
           . exact ac u (List.mem_of_mem_drop Z)
     . rw[aD _ _ _ _ e]at E
       exact(M.rows j r' E).keep S.le_refl F fun g' J=>O g' (fun e'=>M.disj j k r' r E hk e g' J (by rw[I,e'];rfl))
   . intro j r' E g' J
     by_cases e:j=k
     . subst e;exact M.free j r hk g' J
     . rw[aD _ _ _ _ e]at E;exact M.free j r' E g' J
   . intro j j' r1 r2 E ao aj g' J av
     have p:∀j r',aI H k (some { r with es:=r.es.take a++news++r.es.drop (a+news.length) }) j=some r'->∃ak,H j=some ak:=fun j r' E=>by
       by_cases e:j=k
       . subst e;exact⟨r,hk⟩
       . rw[aD _ _ _ _ e]at E;exact⟨_,E⟩
     obtain⟨q1,aq⟩:=p j r1 E;obtain⟨q2,aw⟩:=p j' r2 ao;exact M.disj j j' q1 q2 aq aw aj g' J av
 . refine⟨S.le_refl,fun _ h=>h,rfl,rfl,rfl,by simp,fun j E=>setRow_other w g j _ (fun e=>M.free k r hk g (by rw[I];rfl) (e▸E)),fun _ h=>.inl h⟩
theorem Tb{k:Nat}{r:Row}(u:H k=some r):aI H k (some r)=H:=by
 funext j;by_cases e:j=k
 . subst e;rw[aB,u]
 . rw[aD _ _ _ _ e]
theorem St.copy(hS:St S w H){k:Nat}{r:Row}(hk:H k=some r){t e sz O:Nat}{t' ty:TypeId}(he:bW P t=some (e,sz,O))(ap:r.sz=sz){a n:Nat}(ac:a+n<=r.es.length){x u:Value}{news:List (List AV)}(hu:xM S w u news)(aa:cZ sz news)
   (hx:∃ad cc,x=.slice ad n cc/\(0<n->∃g n' c',S.loc k=.slice (some ⟨g,0,none⟩) n' c'/\ad=some ⟨g,a*r.sz,none⟩)):
   ∃w',(Builtin.copy_ #[t,t'] ty #[x,u]).run P w=.ok (goInt (min news.length n:Nat)) w'/\St S w' (aI H k (some { r with es:=r.es.take a++news.take (min news.length n)++r.es.drop (a+min news.length n) }))/\Grow S w S w':=by
 obtain⟨ay,z,af,hi,ae,ax,av,ao,hz,aw⟩:=iN he;obtain⟨ad,cc,rfl,au⟩:=hx;obtain⟨sa,sc,l,rfl,hl,ah,I⟩:=hu;have E:=iM.1 aa;rcases Nat.eq_zero_or_pos (min news.length n)with h0|h0
 . refine⟨w,?_,?_,Grow.refl S w⟩
   . have ak:Nat.min news.length n=0:=h0
     have al:∀a:Addr,(loadCells a 0).run P w=.ok #[] w:=fun a=>by simpa using run_loadCells_list (P:=P) w a [] (by simp)
     rw[h0];cases ad <;> cases sa <;> simp[Builtin.copy_,run_underlying af,Builtin.lenOf,Builtin.firstCells,sizeOf,typeInfo,hi,ak,al,storeCells]
   . rw[h0]
     have:({ r with es:=r.es.take a++news.take 0++r.es.drop (a+0) }:Row)=r:=by simp
     rw[this,Tb hk];exact hS
 . have ar:0<n:=by omega
   obtain⟨g,n',c',M,rfl⟩:=au ar;have ab:r.es≠[]:=fun e=>by rw[e]at ac;simp at ac;omega
   have hm:(news.take (min news.length n)).length=min news.length n:=by simp
   have an:(news.take (min news.length n)).flatten=news.flatten.take (min news.length n*sz):=vY _ _ E;have ai:bG S w (news.take (min news.length n)).flatten (l.take (min news.length n*sz)):=by rw[an];exact qN _ _ _ hl
   obtain⟨g',n2,c2,w',F,aq,q1,q2⟩:=hS.storeE hk (a:=a) (news:=news.take (min news.length n)) (l:=l.take (min news.length n*sz)) (fun c hc=>by rw[ap];exact E c (List.mem_of_mem_take hc)) (by rw[hm];omega) ab M ai (fun u hu=>ah u (List.mem_of_mem_take hu));rw[M]at F;injection F with T _ _;injection T with T;injection T with T;subst T;rw[hm]at q1;refine⟨w',?_,q1,q2⟩;rcases I with I|⟨b,o,rfl,J⟩
   . rw[I]at h0;simp at h0
   . have am:l.length=news.length*sz:=by rw[gQ _ _ hl,nO news E]
     have aj:(l.take (min news.length n*sz)).length=min news.length n*sz:=by
       rw[List.length_take,am];exact Nat.min_eq_left (Nat.mul_le_mul_right _ (Nat.min_le_left _ _))
     have ag:=run_loadCells_list (P:=P) w ⟨b,o,none⟩ (l.take (min news.length n*sz)) (fun j v hj=>by
       rw[Addr.add_lit];refine J j v ?_;rw[List.getElem?_take]at hj;split at hj
       . exact hj
       . simp at hj)
     rw[aj]at ag;have Z:Nat.min news.length n=min news.length n:=rfl;simp[Builtin.copy_,run_underlying af,Builtin.lenOf,Builtin.firstCells,sizeOf,typeInfo,hi,ae,Z,ag,aq P]
theorem xW(z:Array Value)(u:0<z.size):∀m,(Builtin.zeroCells z m).toList=(List.replicate m z.toList).flatten
 | 0=>by simp[Builtin.zeroCells]
 | m+1=>by
   have ih:=xW z u m;rw[show List.replicate (m+1) z.toList=List.replicate m z.toList++[z.toList]from List.replicate_succ',List.flatten_append,<-ih];simp only[Builtin.zeroCells,Array.toList_map,Array.toList_range,Nat.add_mul,Nat.one_mul,List.flatten_cons,List.flatten_nil,List.append_nil];rw[List.range_add,List.map_append]
   congr 1
   apply List.ext_getElem
   . simp
   . intro i h1 E
     simp only[List.length_map,List.length_range]at h1;simp[Nat.add_comm (m*z.size),Nat.add_mul_mod_self_right,Nat.mod_eq_of_lt h1,h1]
theorem St.clear(hS:St S w H){k:Nat}{r:Row}(hk:H k=some r){t e sz M:Nat}{ty:TypeId}{zs:List AV}(he:bW P t=some (e,sz,M))(ae:dO P e=some zs)(al:r.sz=sz){a n:Nat}(aa:a+n<=r.es.length){x:Value}
   (hx:∃ad cc,x=.slice ad n cc/\(0<n->∃g n' c',S.loc k=.slice (some ⟨g,0,none⟩) n' c'/\ad=some ⟨g,a*r.sz,none⟩)):
   ∃w',(Builtin.clear_ #[t] ty #[x]).run P w=.ok (.tuple #[]) w'/\St S w' (aI H k (some { r with es:=r.es.take a++List.replicate n zs++r.es.drop (a+n) }))/\Grow S w S w':=by
 obtain⟨ak,z,Z,hi,ah,ao,aj,ac,hz,ai⟩:=iN he;obtain⟨i',v,I,F,rfl,am,an,h1⟩:=mP ae;rw[hi]at I;injection I with I;subst I;rw[hz]at F;injection F with F;subst F;obtain⟨ad,cc,rfl,ag⟩:=hx;rcases Nat.eq_zero_or_pos n with h0|h0
 . subst h0
   refine⟨w,?_,?_,Grow.refl S w⟩
   . cases ad <;> simp[Builtin.clear_,run_underlying Z]
   . have:({ r with es:=r.es.take a++List.replicate 0 (z.cells.toList.map pJ)++r.es.drop (a+0) }:Row)=r:=by simp
     rw[this,Tb hk];exact hS
 . obtain⟨g,n',c',J,rfl⟩:=ag h0
   have ab:r.es≠[]:=fun e=>by rw[e]at aa;simp at aa;omega
   have T:∀m,bG S w (List.replicate m (z.cells.toList.map pJ)).flatten (List.replicate m z.cells.toList).flatten:=by
     intro m;induction m with
     | zero=>simp[bG]
     | succ m ih=>simp only[List.replicate_succ,List.flatten_cons];exact dI _ _ _ _ (lN _) ih
   obtain⟨g',n2,c2,w',E,af,q1,q2⟩:=hS.storeE hk (a:=a) (news:=List.replicate n (z.cells.toList.map pJ)) (l:=(List.replicate n z.cells.toList).flatten) (fun c hc=>by rw[List.eq_of_mem_replicate hc];simp;omega) (by rw[List.length_replicate];omega) ab J (T n) (fun u hu=>by
     obtain⟨l,hl,hu⟩:=List.mem_flatten.1 hu;rw[List.eq_of_mem_replicate hl]at hu;exact h1 u hu)
   rw[J]at E;injection E with O _ _;injection O with O;injection O with O;subst O;rw[List.length_replicate]at q1;refine⟨w',?_,q1,q2⟩;obtain⟨m,rfl⟩:∃m,n=m+1:=⟨n-1,by omega⟩;simp[Builtin.clear_,run_underlying Z,zeroValue,typeInfo,hi,hz,xW z.cells (by omega) (m+1),af P]
theorem Da{t ty e:TypeId}{i:TypeInfo}{size n c:Nat}{v:Value}{xs:List Value}(I:P.underlying t=some (.slice e))(F:P.info? e=some i)(u:w.ownsRow 0 e size v n xs):
   (Builtin.append_ #[t,t] ty #[v,.slice none 0 c]).run P w=.ok v w:=by
 rcases u.2 with⟨rfl,rfl⟩|⟨g,cap,cur,rfl,_,_,E,_⟩
 . simp[Builtin.append_,run_underlying I,sizeOf,typeInfo,F,Builtin.lenOf,Builtin.firstCells]
 . simp[Builtin.append_,run_underlying I,sizeOf,typeInfo,F,Builtin.lenOf,Builtin.firstCells,E,storeCells]
theorem St.append(Z:St S w H){k:Nat}{r:Row}(hk:H k=some r){ay:Option Addr}{n0 c0:Nat}(ap:S.loc k=.slice ay n0 c0){t ty:TypeId}{aa:Nat}(he:bW P t=some (r.e,r.sz,aa)){news:List (List AV)}{u:Value}(hu:xM S w u news)
   (ar:cZ r.sz news) (hb:(r.es.length+news.length)*aa<=140737488355328):
   ∃I w',(Builtin.append_ #[t,t] ty #[S.loc k,u]).run P w=.ok I w'/\(∃a n c,I=.slice a n c) /\
     St (S.addRow I r.sz) w' (aI (aI H k none) S.N (some ⟨r.e,r.sz,r.es++news⟩))/\Grow S w (S.addRow I r.sz) w':=by
 have hR:=Z.rows k r hk;obtain⟨a5,z,aw,hi,a7,a4,ak,ao,hz,a0⟩:=iN he;obtain⟨xs,ho,hr,h1⟩:=hR.sl ap;obtain⟨ad,c,l,rfl,hl,au,al⟩:=hu;have af:=iM.1 ar;have an:l.length=news.length*r.sz:=by rw[gQ _ _ hl,nO news af]
 have a9:r.es.length+news.length<=140737488355328:=Nat.le_trans (Nat.le_mul_of_pos_right _ ao) hb;have a6 : ∃ I w', (Builtin.append_ #[t, t] ty #[S.loc k, .slice ad news.length c]).run P w = .ok I w' /\ w'.ownsRow 0 r.e r.sz I (r.es.length + news.length) (xs ++ l) /\ w.grownBy w' (blk (S.loc k)) /\
     (blk I=blk (S.loc k)\/blk I=some w.heap.size):=by
   cases ad with
   | none=>
     have hn:news=[]:=by
       rcases al with h|⟨b,o,h,_⟩
       . exact h
       . simp at h
     subst hn;have am:l=[]:=List.eq_nil_of_length_eq_zero (by rw[an];simp);subst am;exact⟨S.loc k,w,Da aw hi ho,by simpa using ho,World.grownBy.refl w _,.inl rfl⟩
   | some a=>
     have aj:∀j x,l[j]?=some x->w.cell? (a.add j)=some x:=by
       rcases al with h|⟨b,o,h,hc⟩
       . subst h
         have am:l=[]:=List.eq_nil_of_length_eq_zero (by rw[an];simp);subst am;simp
       . injection h with h
         subst h;intro j x F;rw[Addr.add_lit];exact hc j x F
     obtain⟨I,w',q1,q2,q3,_,q5⟩:=run_append_own_at (P:=P) w 0 t ty r.e a5 z r.sz aa aw hi hz a7 a4 a0 ak (S.loc k) r.es.length xs ho a news.length c l an aj au
       (by simp only[maxLen];omega) hb (Nat.zero_le _)
     have aq:blk (S.loc k)=(S.loc k).ownBlock:=by rw[ap];exact aiM _ _ _
     have a8:blk I=I.ownBlock:=by
       rcases q2.2 with⟨h,_⟩|⟨_,_,_,h,_⟩ <;> (rw[h];rfl)
     exact⟨I,w',q1,q2,by rw[aq];exact q3,by rw[aq,a8];exact q5⟩
 obtain⟨I,w',q1,q2,q3,q4⟩:=a6;have ah:=Z.free k r hk;have ag:∀j,S.fz j->w'.heap[j]?=w.heap[j]?:=fun j F=>q3.block j (Z.fz_lt j F) (fun e=>ah j e.symm F)
 have O:fG S w w':=Z.kept ag;have M:=S.le_addRow I r.sz;have J:(S.addRow I r.sz).loc S.N=I:=by simp[Sg.addRow]
 have az:∀g,blk I=some g->¬S.fz g:=fun g E hf=>by
   rcases q4 with e|e
   . exact ah g (e▸E) hf
   . rw[e]at E;injection E with E;subst E;exact Nat.lt_irrefl _ (Z.fz_lt _ hf)
 have T:∀j r',j≠S.N->aI (aI H k none) S.N (some ⟨r.e,r.sz,r.es++news⟩) j=some r'->j≠k/\H j=some r':=fun j r' F h=>by
   rw[aD _ _ _ _ F]at h;by_cases e:j=k
   . subst e;rw[aB]at h;simp at h
   . rw[aD _ _ _ _ e]at h;exact⟨e,h⟩
 have ae:∀j r',j≠k->H j=some r'->∀g,blk (S.loc j)=some g->some g≠blk (S.loc k)/\g<w.heap.size:=fun j r' F ab g E=>
   ⟨fun e=>Z.disj j k r' r ab hk F g E e.symm,(Z.rows j r' ab).block_lt E⟩
 have ax:∀j r',j≠k->H j=some r'->∀g,blk (S.loc j)=some g->blk I≠some g:=fun j r' F ab g E e=>by
   obtain⟨e1,e2⟩:=ae j r' F ab g E;rcases q4 with e'|e'
   . exact e1 (by rw[<-e',e])
   . rw[e']at e;injection e with e;omega
 refine⟨I,w',q1,?_,⟨Z.ro_fz,fun j F=>Nat.lt_of_lt_of_le (Z.fz_lt j F) q3.size,?_,?_,?_,Z.tabs.keep M O⟩,⟨M,fun _ h=>h,q3.os,q3.tape,q3.output,q3.size,ag,fun _ h=>.inl h⟩⟩
 . rcases q2.2 with⟨h,_⟩|⟨g,cap,cur,h,_⟩
   . exact⟨_,_,_,h⟩
   . exact⟨_,_,_,h⟩
 . intro j r' F
   by_cases e:j=S.N
   . subst e
     rw[aB]at F;injection F with F;subst F;refine⟨Nat.lt_succ_self _,by simp[Sg.addRow],ak,?_,.inl ⟨xs++l,?_,?_,?_⟩⟩
     . intro cs ai
       rcases List.mem_append.1 ai with ai|ai
       . exact hR.len cs ai
       . exact af cs ai
     . rw[J,List.length_append];exact q2
     . rw[List.flatten_append]
       exact dI _ _ _ _ (dR M O _ _ hr) (dR M O _ _ hl)
     . intro x hx
       rcases List.mem_append.1 hx with hx|hx
       . exact h1 x hx
       . exact au x hx
   . obtain⟨e1,e2⟩:=T j r' e F
     exact(Z.rows j r' e2).keep M O fun g E=>q3.block g (ae j r' e1 e2 g E).2 (ae j r' e1 e2 g E).1
 . intro j r' F g E
   by_cases e:j=S.N
   . subst e;rw[J]at E;exact az g E
   . obtain⟨e1,e2⟩:=T j r' e F
     rw[M.loc j (Z.rows j r' e2).lt]at E;exact Z.free j r' e2 g E
 . intro j j' r1 r2 F ab av g E ac
   by_cases e:j=S.N
   . subst e
     rw[J]at E;obtain⟨e1,e2⟩:=T j' r2 (Ne.symm av) ab;rw[M.loc j' (Z.rows j' r2 e2).lt]at ac;exact ax j' r2 e1 e2 g ac E
   . obtain⟨e1,e2⟩:=T j r1 e F
     rw[M.loc j (Z.rows j r1 e2).lt]at E;by_cases e':j'=S.N
     . subst e'
       rw[J]at ac;exact ax j r1 e1 e2 g E ac
     . obtain⟨e3,e4⟩:=T j' r2 e' ab
       rw[M.loc j' (Z.rows j' r2 e4).lt]at ac;exact Z.disj j j' r1 r2 e2 e4 av g E ac
theorem Kn{es:List (List AV)}{I:Option Addr}{n:Nat}(h:rep S w (.cl es) (.slice I n n)){sz:Nat}(hl:cZ sz es):
   ∃l,l.length=es.length*sz/\bG S w es.flatten l/\(∀x∈l,x.oneCell'=true)/\n=es.length/\n<=maxLen/\(es=[]\/∃b o,I=some ⟨b,o,none⟩/\∀j x,l[j]?=some x->w.cell? ⟨b,o+j,none⟩=some x):=by
 simp only[rep]at h;obtain⟨aa,n',e,rfl,F,O⟩:=h;injection e with M E J;subst M E;rcases O with rfl|⟨b,o,Z,rfl,hb,hs,u⟩
 . exact⟨[],by simp,by simp[bG],by simp,rfl,F,.inl rfl⟩
 . obtain⟨l,M,E,J,T⟩:=lO _ _ (vQ es o u)
   refine⟨l,?_,E,J,rfl,F,.inr ⟨b,o,rfl,T⟩⟩;rw[gQ _ _ E,nO es (iM.1 hl)]
theorem St.appendNew(hS:St S w H){es:List (List AV)}{us:Value}(ax:rep S w (.cl es) us){t ty e:TypeId}{sz I:Nat}(he:bW P t=some (e,sz,I)){news:List (List AV)}{u:Value}(hu:xM S w u news)(au:news≠[])
   (a8:cZ sz es) (ap:cZ sz news) (hb:(es.length+news.length)*I<=140737488355328):
   ∃v' w',(Builtin.append_ #[t,t] ty #[us,u]).run P w=.ok v' w'/\(∃a n c,v'=.slice a n c) /\
     St (S.addRow v' sz) w' (aI H S.N (some ⟨e,sz,es++news⟩))/\Grow S w (S.addRow v' sz) w':=by
 obtain⟨aw,z,az,hi,a5,av,ah,am,hz,ar⟩:=iN he;have aj:=ax;simp only[rep]at aj;obtain⟨ao,n0,rfl,_⟩:=aj;obtain⟨l0,ai,a9,bc,rfl,bd,a7⟩:=Kn ax a8;obtain⟨ad,c,l,rfl,hl,aq,ay⟩:=hu;have ag:=iM.1 ap;have a4:=iM.1 a8;have al:l.length=news.length*sz:=by rw[gQ _ _ hl,nO news ag]
 have be:0<news.length:=List.length_pos_iff.2 au;have bf:es.length+news.length<=140737488355328:=Nat.le_trans (Nat.le_mul_of_pos_right _ am) hb;obtain⟨b,o,rfl,hcell⟩:∃b o,ad=some ⟨b,o,none⟩/\∀j x,l[j]?=some x->w.cell? ⟨b,o+j,none⟩=some x:=by
   rcases ay with h|h
   . exact absurd h au
   . exact h
 have ae:∀j x,l[j]?=some x->w.cell? ((⟨b,o,none⟩:Addr).add j)=some x:=fun j x hj=>by rw[Addr.add_lit];exact hcell j x hj
 have bb:∃v' w',(Builtin.append_ #[t,t] ty #[.slice ao es.length es.length,.slice (some ⟨b,o,none⟩) news.length c]).run P w=.ok v' w'/\w'.ownsRow w.heap.size e sz v' (es.length+news.length) (l0++l)/\w.grownBy w' none:=by
   cases ao with
   | none=>
     have ba:es=[]:=by
       rcases a7 with h|⟨_,_,h,_⟩
       . exact h
       . cases h
     subst ba;obtain rfl:l0=[]:=List.eq_nil_of_length_eq_zero (by simpa using ai);obtain⟨v',w',q1,q2,q3,_⟩:=run_append_own (P:=P) w w.heap.size t ty e aw z sz I az hi hz a5 av ar ah (.slice none 0 0) 0 [] (World.ownsRow_nil w _ e sz) ⟨b,o,none⟩ news.length c l al ae aq (by simp only[maxLen];omega) hb (Nat.le_refl _);exact⟨v',w',q1,q2,q3⟩
   | some a0=>
     have an:∀j x,l0[j]?=some x->w.cell? (a0.add j)=some x:=by
       rcases a7 with h|⟨b0,o0,h,hc⟩
       . subst h
         obtain rfl:l0=[]:=List.eq_nil_of_length_eq_zero (by simpa using ai);simp
       . injection h with h
         subst h;intro j x hj;rw[Addr.add_lit];exact hc j x hj
     exact run_append_arg_grows (P:=P) w t ty e aw z sz I az hi hz a5 av ar ah a0 es.length es.length l0 ai an ⟨b,o,none⟩ news.length c l al ae (by omega) (by simp only[maxLen];omega) hb
 obtain⟨v',w',q1,q2,q3⟩:=bb;obtain⟨g,cap,cur,hv,hg0,hg,hnc,hcm,ab,htk⟩:∃g cap cur,v'=.slice (some ⟨g,0,none⟩) (es.length+news.length) cap/\w.heap.size<=g/\w'.heap[g]?=some (.cells cur e (0,0))/\es.length+news.length<=cap/\cap<=maxLen/\cur.size=cap*sz/\cur.toList.take ((es.length+news.length)*sz)=l0++l:=by
   rcases q2.2 with⟨_,h⟩|⟨g,cap,cur,h1,h2,h3,h4,h5,h6,h7⟩
   . omega
   . exact⟨g,cap,cur,h1,h2,h3,h4,h5,h6,h7⟩
 subst hv;have aa:∀k,k<w.heap.size->w'.heap[k]?=w.heap[k]?:=fun k O=>q3.block k O (by simp)
 have M:fG S w w':=fun k O=>aa k (hS.fz_lt k (hS.ro_fz k O))
 have J:=S.le_addRow (.slice (some ⟨g,0,none⟩) (es.length+news.length) cap) sz;have F:(S.addRow (.slice (some ⟨g,0,none⟩) (es.length+news.length) cap) sz).loc S.N=.slice (some ⟨g,0,none⟩) (es.length+news.length) cap:=by simp[Sg.addRow]
 have T:∀k r,k≠S.N->aI H S.N (some ⟨e,sz,es++news⟩) k=some r->H k=some r:=fun k r O h=>by rwa [aD _ _ _ _ O]at h
 refine⟨_,w',q1,⟨_,_,_,rfl⟩,⟨hS.ro_fz,fun k O=>Nat.lt_of_lt_of_le (hS.fz_lt k O) q3.size,?_,?_,?_,hS.tabs.keep J M⟩,⟨J,fun _ h=>h,q3.os,q3.tape,q3.output,q3.size,fun k O=>aa k (hS.fz_lt k O),fun _ h=>.inl h⟩⟩
 . intro k r O
   by_cases e0:k=S.N
   . subst e0
     rw[aB]at O;injection O with O;subst O;refine⟨Nat.lt_succ_self _,by simp[Sg.addRow],ah,?_,.inl ⟨l0++l,?_,?_,?_⟩⟩
     . intro cs ab
       rcases List.mem_append.1 ab with ab|ab
       . exact a4 cs ab
       . exact ag cs ab
     . rw[F,List.length_append]
       exact⟨by rw[List.length_append,ai,al,Nat.add_mul],.inr ⟨g,cap,cur,rfl,Nat.zero_le _,hg,hnc,hcm,ab,htk⟩⟩
     . rw[List.flatten_append]
       exact dI _ _ _ _ (dR J M _ _ a9) (dR J M _ _ hl)
     . intro x hx
       rcases List.mem_append.1 hx with hx|hx
       . exact bc x hx
       . exact aq x hx
   . have Z:=T k r e0 O
     exact(hS.rows k r Z).keep J M fun g' E=>aa g' ((hS.rows k r Z).block_lt E)
 . intro k r O g' E
   by_cases e0:k=S.N
   . subst e0
     rw[F]at E;simp only[blk,Option.some.injEq]at E;subst E;exact fun h=>by have:=hS.fz_lt _ h;omega
   . have Z:=T k r e0 O
     rw[J.loc k (hS.rows k r Z).lt]at E;exact hS.free k r Z g' E
 . intro k k' r r' O Z ak g' E ac
   by_cases e0:k=S.N
   . subst e0
     rw[F]at E;simp only[blk,Option.some.injEq]at E;subst E;have af:=T k' r' (Ne.symm ak) Z;rw[J.loc k' (hS.rows k' r' af).lt]at ac;have:=(hS.rows k' r' af).block_lt ac;omega
   . have af:=T k r e0 O
     rw[J.loc k (hS.rows k r af).lt]at E;by_cases e1:k'=S.N
     . subst e1
       rw[F]at ac;simp only[blk,Option.some.injEq]at ac;subst ac;have:=(hS.rows k r af).block_lt E;omega
     . have a6:=T k' r' e1 Z
       rw[J.loc k' (hS.rows k' r' a6).lt]at ac;exact hS.disj k k' r r' af a6 ak g' E ac
end
end Go.Aw
end
section
namespace Go.Aw
open Go.RowKit
mutual
inductive Conv (H:aH):AV->AV->Prop
 | refl (x:AV):Conv H x x
 | any (x:AV):Conv H x .any
 | row (k:Nat) (r:Row) (es:List (List AV)):H k=some r->ConvE H r.es es->Conv H (.os k) (.sl es)
 | sl (es es':List (List AV)):ConvE H es es'->Conv H (.sl es) (.sl es')
 | agg (cs cs':List AV):ConvL H cs cs'->Conv H (.agg cs) (.agg cs')
 | tup (cs cs':List AV):ConvL H cs cs'->Conv H (.tup cs) (.tup cs')
 | ptr (k i f:Nat) (r:Row) (cs:List AV):H k=some r->i<r.es.length->ConvL H (r.es.getD i []) cs->Conv H (.op k i f) (.rp cs f)
 | fn (f:FuncId) (cap cap':List AV):ConvL H cap cap'->Conv H (.fn f cap) (.fn f cap')
inductive ConvL (H:aH):List AV->List AV->Prop
 | nil:ConvL H [] []
 | cons (x y:AV) (r s:List AV):Conv H x y->ConvL H r s->ConvL H (x::r) (y::s)
inductive ConvE (H:aH):List (List AV)->List (List AV)->Prop
 | nil:ConvE H [] []
 | cons (x y:List AV) (r s:List (List AV)):ConvL H x y->ConvE H r s->ConvE H (x::r) (y::s)
end
theorem ConvL.refl{H:aH}:∀l,ConvL H l l
 | []=>.nil
 | x::r=>.cons x x r r (.refl x) (ConvL.refl r)
theorem ConvE.refl{H:aH}:∀l,ConvE H l l
 | []=>.nil
 | x::r=>.cons x x r r (ConvL.refl x) (ConvE.refl r)
def Sg.froze(S:Sg)(H:aH):Sg:=
 { S with ro:=fun g=>S.ro g\/∃k r,H k=some r/\blk (S.loc k)=some g,fz:=fun g=>S.fz g\/∃k r,H k=some r/\blk (S.loc k)=some g }
theorem Sg.le_froze(S:Sg)(H:aH):S.le (S.froze H):=⟨fun _ h=>.inl h,Nat.le_refl _,fun _ _=>rfl,fun _ _=>rfl⟩
section
variable{S:Sg}{w:World}{H:aH}
theorem ConvE.len:∀{es es':List (List AV)},ConvE H es es'->es'.length=es.length
 | _,_,.nil=>rfl
 | _,_,.cons _ _ _ _ _ h=>by simp[ConvE.len h]
mutual
theorem Conv.rep(J:St S w H):∀{x y:AV} {u:Value},Conv H x y->rep S w x u->Aw.rep (S.froze H) w y u
 | _,_,_,.refl x,h=>kG (S.le_froze H) (fG.refl S w) _ _ h
 | _,_,_,.any x,_=>by simp only[Aw.rep]
 | _,_,u,.row k r es hk I,h=>by
   simp only[Aw.rep]at h |-;obtain⟨_,rfl,_,_,_,M⟩:=h;have O:=J.rows k r hk;obtain⟨xs,ho,hr,h1⟩:=O.sl M;rcases ho.2 with⟨hv,hn⟩|⟨g,cap,cur,hv,_,h2,h3,T,h5⟩
   . have h0:=List.eq_nil_of_length_eq_zero hn
     refine⟨none,0,0,hv,by rw[I.len,hn],Nat.le_refl _,Nat.zero_le _,.inl ?_⟩;exact List.eq_nil_of_length_eq_zero (by rw[I.len,hn])
   . refine⟨_,_,cap,hv,I.len,h3,T,.inr ⟨g,0,r.sz,rfl,.inr ⟨k,r,hk,by rw[hv];rfl⟩,O.pos,?_⟩⟩
     refine ConvE.rep J I ?_;refine pE _ _ O.len (iT _ xs 0 hr h1 fun j u hu=>?_);have:=ho.cells (g:=g) (by rw[hv];rfl) j u hu
     rwa [Addr.add_lit]at this
 | _,_,_,.sl es es' I,h=>by
   simp only[Aw.rep]at h |-;obtain⟨ad,n,c,rfl,h1,h2,h3,T⟩:=h;refine⟨ad,n,c,rfl,by rw[I.len,h1],h2,h3,?_⟩;rcases T with T|⟨b,o,sz,rfl,hb,hs,Z⟩
   . exact .inl (List.eq_nil_of_length_eq_zero (by rw[I.len,T];rfl))
   . exact .inr ⟨b,o,sz,rfl,.inl hb,hs,ConvE.rep J I Z⟩
 | _,_,_,.agg cs cs' hc,h=>by
   simp only[Aw.rep]at h |-;obtain⟨l,rfl,h1,h2⟩:=h;exact⟨l,rfl,ConvL.rep J hc h1,h2⟩
 | _,_,_,.tup cs cs' hc,h=>by
   simp only[Aw.rep]at h |-;obtain⟨l,rfl,h1⟩:=h;exact⟨l,rfl,ConvL.rep J hc h1⟩
 | _,_,_,.ptr k i f r cs hk hi hc,h=>by
   simp only[Aw.rep]at h |-;obtain⟨_,g,n,c,E,rfl⟩:=h;have O:=J.rows k r hk;have aa:r.es≠[]:=fun e=>by rw[e]at hi;simp at hi
   obtain⟨g',n',c',F,I,_⟩:=O.els E aa;rw[E]at F;injection F with e1 e2 e3;injection e1 with e1;injection e1 with e1;subst e1;obtain⟨e4,e5⟩:=qT _ 0 i I hi;rw[Nat.zero_add,O.sz]at e5;exact⟨g,i*S.sz k,rfl,.inr ⟨k,r,hk,by rw[E];rfl⟩,(ConvL.cells J hc e5).1⟩
 | _,_,_,.fn f cap cap' hc,h=>by
   simp only[Aw.rep]at h |-;obtain⟨l,rfl,h1⟩:=h;exact⟨l,rfl,ConvL.rep J hc h1⟩
theorem ConvL.rep(E:St S w H):∀{x y:List AV} {l:List Value},ConvL H x y->bG S w x l->bG (S.froze H) w y l
 | _,_,_,.nil,h=>h
 | _,_,_,.cons x y r s hx hr,h=>by
   simp only[bG]at h |-;obtain⟨u,t,rfl,h1,F⟩:=h;exact⟨u,t,rfl,Conv.rep E hx h1,ConvL.rep E hr F⟩
theorem ConvL.cells(E:St S w H){b:Nat}:∀{x y:List AV} {o:Nat},ConvL H x y->cR S w b o x->cR (S.froze H) w b o y/\y.length=x.length
 | _,_,_,.nil,_=>⟨trivial,rfl⟩
 | _,_,o,.cons x y r s hx hr,h=>by
   simp only[cR]at h |-;obtain⟨⟨u,h1,F,I⟩,M⟩:=h;obtain⟨O,J⟩:=ConvL.cells E hr M;exact⟨⟨⟨u,h1,F,Conv.rep E hx I⟩,O⟩,by simp[J]⟩
theorem ConvE.rep(u:St S w H){b sz:Nat}:∀{x y:List (List AV)} {o:Nat},ConvE H x y->gX S w b sz o x->gX (S.froze H) w b sz o y
 | _,_,_,.nil,_=>trivial
 | _,_,o,.cons x y r s hx hr,h=>by
   simp only[gX]at h |-;obtain⟨h1,E,F⟩:=h;obtain⟨J,I⟩:=ConvL.cells u hx E;exact⟨by rw[I,h1],J,ConvE.rep u hr F⟩
end
end
mutual
def fv:AV->Option Value
 | .v x=>some x
 | .tup vs=>(fvL vs).map fun l=>.tuple l.toArray
 | .agg vs=>(fvL vs).map fun l=>.agg l.toArray
 | _=>none
def fvL:List AV->Option (List Value)
 | []=>some []
 | x::r=>match fv x,fvL r with
   | some u,some l=>some (u::l)
   | _,_=>none
end
mutual
theorem QJ{S:Sg}{w:World}:∀{x:AV} {u v:Value},fv x=some v->rep S w x u->u=v
 | .v x,u,v,h,hr=>by
   simp only[fv]at h;injection h with h;subst h;simpa only[rep]using hr
 | .tup vs,u,v,h,hr=>by
   simp only[fv]at h;cases E:fvL vs with
   | none=>simp[E]at h
   | some l=>
     simp[E]at h;subst h;simp only[rep]at hr;obtain⟨l',rfl,h1⟩:=hr;rw[Jp E h1]
 | .agg vs,u,v,h,hr=>by
   simp only[fv]at h;cases E:fvL vs with
   | none=>simp[E]at h
   | some l=>
     simp[E]at h;subst h;simp only[rep]at hr;obtain⟨l',rfl,h1,_⟩:=hr;rw[Jp E h1]
 | .any,_,_,h,_=>by simp[fv]at h
 | .sl _,_,_,h,_=>by simp[fv]at h
 | .rp _ _,_,_,h,_=>by simp[fv]at h
 | .os _,_,_,h,_=>by simp[fv]at h
 | .op _ _ _,_,_,h,_=>by simp[fv]at h
 | .gd _ _,_,_,h,_=>by simp[fv]at h
 | .fn _ _,_,_,h,_=>by simp[fv]at h
 | .nf _,_,_,h,_=>by simp[fv]at h
 | .oz _ _ _,_,_,h,_=>by simp[fv]at h
 | .cl _,_,_,h,_=>by simp[fv]at h
theorem Jp{S:Sg}{w:World}:∀{x:List AV} {u v:List Value},fvL x=some v->bG S w x u->u=v
 | [],u,v,h,hr=>by
   simp only[fvL]at h;injection h with h;subst h;simpa only[bG]using hr
 | x::r,u,v,h,hr=>by
   simp only[fvL]at h;cases h1:fv x with
   | none=>simp[h1]at h
   | some a=>
     cases E:fvL r with
     | none=>simp[h1,E]at h
     | some l=>
       simp[h1,E]at h;subst h;simp only[bG]at hr;obtain⟨J,t,rfl,I,F⟩:=hr;rw[QJ h1 I,Jp E F]
end
mutual
theorem YZ{S I:Sg}{w J:World}:∀{x:AV} {u v:Value},fv x=some v->rep S w x u->rep I J x u
 | .v x,u,v,h,hr=>by simpa only[rep]using hr
 | .tup vs,u,v,h,hr=>by
   simp only[fv]at h;cases E:fvL vs with
   | none=>simp[E]at h
   | some l=>
     simp only[rep]at hr |-;obtain⟨l',rfl,h1⟩:=hr;exact⟨l',rfl,Jl E h1⟩
 | .agg vs,u,v,h,hr=>by
   simp only[fv]at h;cases E:fvL vs with
   | none=>simp[E]at h
   | some l=>
     simp only[rep]at hr |-;obtain⟨l',rfl,h1,F⟩:=hr;exact⟨l',rfl,Jl E h1,F⟩
 | .any,_,_,h,_=>by simp[fv]at h
 | .sl _,_,_,h,_=>by simp[fv]at h
 | .rp _ _,_,_,h,_=>by simp[fv]at h
 | .os _,_,_,h,_=>by simp[fv]at h
 | .op _ _ _,_,_,h,_=>by simp[fv]at h
 | .gd _ _,_,_,h,_=>by simp[fv]at h
 | .fn _ _,_,_,h,_=>by simp[fv]at h
 | .nf _,_,_,h,_=>by simp[fv]at h
 | .oz _ _ _,_,_,h,_=>by simp[fv]at h
 | .cl _,_,_,h,_=>by simp[fv]at h
theorem Jl{S I:Sg}{w M:World}:∀{x:List AV} {u v:List Value},fvL x=some v->bG S w x u->bG I M x u
 | [],u,v,h,hr=>by simpa only[bG]using hr
 | x::r,u,v,h,hr=>by
   simp only[fvL]at h;cases h1:fv x with
   | none=>simp[h1]at h
   | some a=>
     cases E:fvL r with
     | none=>simp[h1,E]at h
     | some l=>
       simp only[bG]at hr |-;obtain⟨J,t,rfl,O,F⟩:=hr;exact⟨J,t,rfl,YZ h1 O,Jl E F⟩
end
def ahO(S:Sg)(w:World)(H:aH)(R:AV->aH->Prop)(e:Ending)(w':World):Prop:=
 ∃v r H' S',e=.returned v/\R r H'/\St S' w' H'/\rep S' w' r v/\Grow S w S' w'/\eY S.N H H'
def bA(P:Program)(f:FuncId)(args:List AV)(H:aH)(R:AV->aH->Prop):Prop:=
 ∀S w (vals:List Value),St S w H->bG S w args vals->Calls P f vals.toArray w (ahO S w H R)
def bY:aH:=fun _=>none
def RC(P:Program)(f:FuncId)(args:List AV)(R:AV->aH->Prop):Prop:=
 ∀S w (vals:List Value),St S w bY->(∀k,k<w.heap.size->S.fz k)->bG S w args vals->Calls P f vals.toArray w (ahO S w bY R)
def PC(P:Program)(f:FuncId)(args:List AV)(r:AV):Prop:=RC P f args fun x _=>x=r
def NC(P:Program)(f:FuncId)(args:List AV)(row:Row)(mk:Nat->AV):Prop:=RC P f args fun x H'=>∃k,x=mk k/\H' k=some row
def A5(P:Program)(f:FuncId)(args:List AV)(H:aH)(r:AV):Prop:=∃args',ConvL H args args'/\PC P f args' r/\(fv r).isSome=true
def dN(P:Program)(f:FuncId)(args:List AV)(H:aH)(r:AV):Prop:=A5 P f args H r\/∃x,r=.nf x/\PC P f args x
theorem Mo{q:Bool}{r:AV}{K:AV->Prop}(h:(fv r).isSome=true):nfq q r K=K r:=by
 cases q <;> cases r <;> first|rfl|(simp[fv]at h)
theorem KS{q:Bool}{r:AV}{K:AV->Prop}(h:nfq q r K):∃z,K z:=by
 unfold nfq at h;split at h
 . exact h.elim
 . exact⟨_,h⟩
 . exact⟨_,h⟩
section
variable{P:Program}{f:FuncId}{args:List AV}{H:aH}{R K:AV->aH->Prop}
theorem RC.mono(h:RC P f args R)(F:∀r H',R r H'->K r H'):RC P f args K:=fun S w vals I M J=>
 (h S w vals I M J).mono fun _ _ ⟨v,r,H',S',h1,u,E⟩=>⟨v,r,H',S',h1,F r H' u,E⟩
theorem St.drop{S:Sg}{w:World}{H':aH}(h:St S w H)(E:∀k r,H' k=some r->H k=some r):St S w H':=
 ⟨h.ro_fz,h.fz_lt,fun k r u=>h.rows k r (E k r u),fun k r u=>h.free k r (E k r u),fun k k' r r' u F=>h.disj k k' r r' (E k r u) (E k' r' F),h.tabs⟩
theorem RC.conv{r:AV}(h:RC P f args fun x H'=>Conv H' x r):PC P f args r:=fun S w vals Z hf ha=>
 (h S w vals Z hf ha).mono fun e w' ⟨v,x,H',S',M,O,E,T,I,hn⟩=>by
   refine⟨v,r,bY,S'.froze H',M,rfl,⟨?_,?_,fun k r F=>by simp[bY]at F,fun k r F=>by simp[bY]at F,fun k k' r r' F=>by simp[bY]at F,E.tabs.keep (S'.le_froze H') (fG.refl S' w')⟩,O.rep E T,?_,fun _ _ _=>rfl⟩
   . rintro g (u|u)
     . exact .inl (E.ro_fz g u)
     . exact .inr u
   . rintro g (u|⟨k,row,F,u⟩)
     . exact E.fz_lt g u
     . exact(E.rows k row F).block_lt u
   . refine⟨Sg.le_trans I.le (S'.le_froze H'),fun k F=>.inl (I.fz k F),I.os,I.tape,I.output,I.size,I.same,?_⟩
     rintro g (u|⟨k,row,F,u⟩)
     . exact I.newro g u
     . exact .inr fun J=>E.free k row F g u (I.fz g J)
def merge(H H':aH):aH:=fun k=>match H' k with|some r=>some r|none=>H k
theorem RC.frame(h:RC P f args R)(hK:∀r H',R r H'->(∀k row,H' k=some row->H k=none)->∃aa,K r aa/\(∀k row,aa k=some row->merge H H' k=some row)/\∀k,H k=none->H' k=none->aa k=none):
   bA P f args H K:=by
 intro S w vals F ha
 let S0:Sg:={ S with fz:=fun k=>k<w.heap.size }
 have ao:S.le S0:=⟨fun _ h=>h,Nat.le_refl _,fun _ _=>rfl,fun _ _=>rfl⟩;have au:St S0 w bY:=⟨fun k u=>F.fz_lt k (F.ro_fz k u),fun _ h=>h,fun k r u=>by simp[bY]at u,fun k r u=>by simp[bY]at u,fun k k' r r' u=>by simp[bY]at u,F.tabs⟩;refine(h S0 w vals au (fun _ h=>h) (dR ao (fG.refl S w) _ _ ha)).mono fun e w' ⟨v,x,H',S',he,hx,I,hv,Z,hn⟩=>?_
 have am:∀k row,H' k=some row->S.N<=k:=fun k row u=>by
   rcases Nat.lt_or_ge k S.N with ai|ag
   . rw[hn k ai rfl]at u;simp at u
   . exact ag
 have aj:∀k row,H' k=some row->H k=none:=fun k row u=>by
   cases hH:H k with
   | none=>rfl
   | some r=>have:=(F.rows k r hH).lt;have:=am k row u;omega
 obtain⟨aa,ar,ap,aq⟩:=hK x H' hx aj
 let S'':Sg:={ S' with fz:=fun k=>S.fz k\/(S'.fz k/\w.heap.size<=k)\/S'.ro k }
 have ab:S'.le S'':=⟨fun _ h=>h,Nat.le_refl _,fun _ _=>rfl,fun _ _=>rfl⟩;have ak:∀k,k<S.N->S'.loc k=S.loc k:=Z.le.loc;have ae:S.le S'':=⟨fun k u=>Z.le.ro k u,Z.le.N,Z.le.loc,Z.le.sz⟩;have M:∀k,k<w.heap.size->w'.heap[k]?=w.heap[k]?:=Z.same;have ah:fG S w w':=fun k u=>M k (F.fz_lt k (F.ro_fz k u))
 have af:∀k r,H k=some r->RowOK S'' w' k r:=fun k r u=>(F.rows k r u).keep ae ah fun g E=>M g ((F.rows k r u).block_lt E)
 have ac:∀k r,H' k=some r->RowOK S'' w' k r:=fun k r u=>(I.rows k r u).keep ab (fG.refl S' w') fun _ _=>rfl
 have J:∀k r,H k=some r->∀g,blk (S''.loc k)=some g->blk (S.loc k)=some g/\g<w.heap.size:=fun k r u g E=>by
   have h1:S''.loc k=S.loc k:=ak k (F.rows k r u).lt;rw[h1]at E;exact⟨E,(F.rows k r u).block_lt E⟩
 have O:∀k r,H' k=some r->∀g,blk (S''.loc k)=some g->¬S'.fz g/\w.heap.size<=g:=fun k r u g E=>by
   have h1:=I.free k r u g E;refine⟨h1,?_⟩;rcases Nat.lt_or_ge g w.heap.size with ai|ag
   . exact absurd (Z.fz g ai) h1
   . exact ag
 have zY:∀k r,merge H H' k=some r->H' k=some r\/(H k=some r/\H' k=none):=fun k r u=>by
   unfold merge at u;cases h':H' k with
   | none=>rw[h']at u;exact .inr ⟨u,rfl⟩
   | some r'=>rw[h']at u;exact .inl u
 have hM:St S'' w' (merge H H'):=by
   refine⟨fun k u=>.inr (.inr u),?_,?_,?_,?_,I.tabs⟩
   . rintro k (u|u|u)
     . exact Nat.lt_of_lt_of_le (F.fz_lt k u) Z.size
     . exact I.fz_lt k u.1
     . exact I.fz_lt k (I.ro_fz k u)
   . intro k r u
     rcases zY k r u with h'|⟨h',_⟩
     . exact ac k r h'
     . exact af k r h'
   . intro k r u g E hf
     rcases zY k r u with h'|⟨h',_⟩
     . obtain⟨e1,e2⟩:=O k r h' g E
       rcases hf with hf|hf|hf
       . have:=F.fz_lt g hf;omega
       . exact e1 hf.1
       . exact e1 (I.ro_fz g hf)
     . obtain⟨e1,e2⟩:=J k r h' g E
       rcases hf with hf|hf|hf
       . exact F.free k r h' g e1 hf
       . omega
       . rcases Z.newro g hf with T|T
         . exact F.free k r h' g e1 (F.ro_fz g T)
         . exact T e2
   . intro k k' r r' u al an g E ad
     rcases zY k r u with h1|⟨h1,_⟩
     . rcases zY k' r' al with T|⟨T,_⟩
       . exact I.disj k k' r r' h1 T an g E ad
       . have:=(O k r h1 g E).2;have:=(J k' r' T g ad).2;omega
     . rcases zY k' r' al with T|⟨T,_⟩
       . have:=(J k r h1 g E).2;have:=(O k' r' T g ad).2;omega
       . exact F.disj k k' r r' h1 T an g (J k r h1 g E).1 (J k' r' T g ad).1
 refine⟨v,x,aa,S'',he,ar,hM.drop ap,kG ab (fG.refl S' w') _ _ hv,⟨ae,fun _ h=>.inl h,Z.os,Z.tape,Z.output,Z.size,fun k u=>M k (F.fz_lt k u),fun k u=>(Z.newro k u).imp id (fun T h3=>T (F.fz_lt k h3))⟩,?_⟩
 . intro k u h0
   exact aq k h0 (hn k u rfl)
theorem PC.use{r:AV}(h:PC P f args r)(E:K r H):bA P f args H K:=
 RC.frame h fun x H' F J=>⟨H,F▸E,fun k row u=>by
   unfold merge;cases I:H' k with
   | none=>exact u
   | some r'=>rw[J k r' I]at u;simp at u,fun _ h _=>h⟩
theorem NC.use{row:Row}{I:Nat->AV}(h:NC P f args row I)(J:∀k,H k=none->K (I k) (aI H k (some row))):bA P f args H K:=
 RC.frame h fun x H' ⟨k,O,E⟩ F=>⟨aI H k (some row),O▸J k (F k row E),fun j r u=>by
   unfold merge;by_cases e:j=k
   . subst e;rw[aB]at u;rw[E];exact u
   . rw[aD _ _ _ _ e]at u
     cases M:H' j with
     | none=>exact u
     | some r'=>rw[F j r' M]at u;simp at u,fun j h0 h1=>by
   by_cases e:j=k
   . subst e;rw[E]at h1;simp at h1
   . rw[aD _ _ _ _ e];exact h0⟩
theorem A5.val{r:AV}(h:A5 P f args H r):∃v,fv r=some v:=by
 obtain⟨_,_,_,u⟩:=h;exact Option.isSome_iff_exists.1 u
theorem A5.calls{r:AV}(h:A5 P f args H r){v:Value}(Z:fv r=some v){S:Sg}{w:World}{vals:List Value}(M:St S w H)(ha:bG S w args vals):
   (∀S2 w2,rep S2 w2 r v)/\Calls P f vals.toArray w fun e w'=>e=.returned v/\w'.os=w.os/\w'.tape=w.tape/\w'.output=w.output/\w.heap.size<=w'.heap.size/\∀k,k<w.heap.size->w'.heap[k]?=w.heap[k]?:=by
 obtain⟨args',hc,hp,hf⟩:=h
 let S0:Sg:={ S.froze H with fz:=fun k=>k<w.heap.size }
 have I:(S.froze H).le S0:=⟨fun _ h=>h,Nat.le_refl _,fun _ _=>rfl,fun _ _=>rfl⟩;have aa:St S0 w bY:=⟨fun k F=>by
   rcases F with F|⟨j,r,hj,J⟩
   . exact M.fz_lt k (M.ro_fz k F)
   . exact(M.rows j r hj).block_lt J,fun _ h=>h,fun k r F=>by simp[bY]at F,fun k r F=>by simp[bY]at F,fun k k' r r' F=>by simp[bY]at F,(M.tabs.keep (S.le_froze H) (fG.refl S w)).keep I (fG.refl _ w)⟩
 have u:=hp S0 w vals aa (fun _ h=>h) (dR I (fG.refl _ w) _ _ (hc.rep M ha));refine⟨fun S2 w2=>?_,u.mono fun e w' ⟨v',x,H',S',he,T,O,E,J,hn⟩=>?_⟩
 . obtain⟨e,w',fr,⟨v',x,H',S',he,T,O,E,_⟩,_⟩:=u []
   subst T;have:=QJ Z E;subst this;exact YZ Z E
 . subst T
   have:=QJ Z E;subst this;exact⟨he,J.os,J.tape,J.output,J.size,J.same⟩
theorem St.after{S:Sg}{w w':World}(u:St S w H)(I:w.heap.size<=w'.heap.size)(E:∀k,k<w.heap.size->w'.heap[k]?=w.heap[k]?):St S w' H:=
 ⟨u.ro_fz,fun k h=>Nat.lt_of_lt_of_le (u.fz_lt k h) I,fun k r h=>(u.rows k r h).keep S.le_refl (fun j F=>E j (u.fz_lt j (u.ro_fz j F))) fun g J=>E g ((u.rows k r h).block_lt J),u.free,u.disj,u.tabs.keep S.le_refl (fun j F=>E j (u.fz_lt j (u.ro_fz j F)))⟩
theorem St.grow{S:Sg}{w w':World}(I:St S w H)(u:w'.os=w.os)(J:w'.tape=w.tape)(E:w'.output=w.output)(F:w.heap.size<=w'.heap.size)(M:∀k,k<w.heap.size->w'.heap[k]?=w.heap[k]?):Grow S w S w':=
 ⟨S.le_refl,fun _ h=>h,u,J,E,F,fun k h=>M k (I.fz_lt k h),fun _ h=>.inl h⟩
theorem A5.use{r:AV}(h:A5 P f args H r)(hK:K r H):bA P f args H K:=by
 intro S w vals E ha;obtain⟨v,u⟩:=h.val;obtain⟨hv,M⟩:=h.calls u E ha;refine M.mono fun e w' ⟨O,J,Z,T,F,I⟩=>⟨v,r,H,S,O,hK,E.after F I,?_,E.grow J Z T F I,eY.refl _ _⟩
 exact hv S w'
end
end Go.Aw
end
section
namespace Go.Aw
open Go.RowKit
def Rel(n:Nat)(S0:Sg)(w0:World)(H0:aH)(ρ:Env)(H:aH)(a:Act)(w:World):Prop:=
 ∃S,St S w H/\FR S w ρ a/\Grow S0 w0 S w/\eY S0.N H0 H/\a.defers=[]/\a.tmps.size=n
def ajK(n:Nat):Option Nat->Bool
 | some d=>decide (d<n)
 | none=>true
def jK(n:Nat)(o:Oper):Bool:=o.op.operands.all (opB n)&&ajK n o.dst
section
variable{P:Program}{n:Nat}{S0:Sg}{w0:World}{H0:aH}{mt:Nat->Bool}{ops:Array Oper}
theorem wJ{o:Oper}(h:jK n o=true):(∀x∈o.op.operands,opB n x=true)/\ajK n o.dst=true:=by
 simp only[jK,Bool.and_eq_true]at h;exact⟨fun x u=>Array.all_eq_true_iff_forall_mem.1 h.1 x u,h.2⟩
theorem tY(a:Act)(d:Option Nat)(v:Value):(a.put d v).tmps.size=a.tmps.size:=by cases d <;> simp[Act.put]
theorem mM(a:Act)(d:Option Nat)(v:Value):(a.put d v).defers=a.defers:=by cases d <;> simp[Act.put]
theorem vF{S:Sg}{w:World}{ρ:Env}{a:Act}{o:Oper}{K:Option Bool->Prop}(J:∀o∈ops,jK n o=true)(hF:FR S w ρ a)(hn:a.tmps.size=n)(h:cJ ops ρ o.guard K):
   ∃G,K G/\(Region.wanted o (yielded ops a.tmps)=true↔gt G):=by
 unfold cJ at h;unfold Region.wanted;cases Z:o.guard with
 | none=>
   rw[Z]at h;exact⟨none,h,by simp[gt]⟩
 | some jw=>
   obtain⟨j,u⟩:=jw;rw[Z]at h;simp only at h;cases I:(ops[j]?).bind (·.dst)with
   | none=>rw[I]at h;exact h.elim
   | some t=>
     rw[I]at h;simp only at h;have O:t<a.tmps.size:=by
       cases M:ops[j]? with
       | none=>simp[M]at I
       | some oj=>
         simp[M]at I;have:=(wJ (J oj (Array.mem_of_getElem? M))).2;rw[I]at this;simpa[ajK,hn]using this
     have F:yielded ops a.tmps j=match a.tmps.getD t undef with| .bool b=>some b|_=>none:=by
       unfold yielded;rw[I];have e:a.tmps.getD t undef=a.tmps[t]:=by simp[Array.getD,O]
       rw[e];simp only[Option.bind_some,Array.getElem?_eq_getElem O];cases a.tmps[t] <;> rfl
     have E:=hF t O;split at h
     . rename_i b T
       rw[T]at E;simp only[rep]at E;rw[E]at F;refine⟨_,h,?_⟩;simp only[F,gt];cases b <;> cases u <;> simp
     . rename_i g b T
       rw[T]at E;simp only[rep]at E;refine⟨_,h,?_⟩;cases g with
       | true=>
         rw[E.1 rfl]at F;simp only[F,gt];cases b <;> cases u <;> simp
       | false=>
         rw[E.2 rfl]at F;simp[undef]at F;simp[F,gt]
     . exact h.elim
theorem eN{S:Sg}{w:World}{G:Option Bool}{z:AV}(h:¬gt G):rep S w (wr G z) undef:=by
 cases G with
 | none=>exact absurd trivial h
 | some b=>
   have:b=false:=by simpa[gt]using h
   subst this;simp[wr,rep]
theorem fC{S:Sg}{w:World}{G:Option Bool}{z:AV}{v:Value}(h:gt G)(u:rep S w z v):rep S w (wr G z) v:=by
 cases G with
 | none=>exact u
 | some b=>
   have:b=true:=h;subst this;simpa[wr,rep]using u
end
section
variable{P:Program}{n:Nat}{S0:Sg}{w0:World}{H0:aH}{mt:Nat->Bool}{ops:Array Oper}{K:Env->aH->Prop}{K':Act->World->Prop}{Q':Exit->Act->World->Prop}{ρ:Env}{H:aH}{a:Act}{w:World}{o:Oper}{S:Sg}
def xA(P:Program)(ops:Array Oper)(o:Oper)(a:Act)(w:World)(K':Act->World->Prop)(Q':Exit->Act->World->Prop):Prop:=
 (Region.wanted o (yielded ops a.tmps)=true->o.wp P a w K' Q')/\(Region.wanted o (yielded ops a.tmps)=false->K' (a.put o.dst undef) w)
theorem eK{v:Value}{w':World}(h:(execOp a.eval o).run P w=.ok (.value v) w')(u:K' (a.put o.dst v) w'):o.wp P a w K' Q':=by
 unfold Oper.wp;rw[h];exact u
theorem Rel.step(O:St S w H)(J:FR S w ρ a)(I:Grow S0 w0 S w)(hN:eY S0.N H0 H)(Z:a.defers=[])(T:a.tmps.size=n){S':Sg}{w':World}{H':aH}{z:AV}{v:Value}{d:Option Nat}
   (F:St S' w' H') (u:Grow S w S' w') (E:eY S.N H H') (M:rep S' w' z v):Rel n S0 w0 H0 (upd ρ d z) H' (a.put d v) w':=
 ⟨S',F,FR.put (J.keep u.le (u.kept O)) M,I.trans u,hN.trans E I.le.N,by rw[mM];exact Z,by rw[tY];exact T⟩
theorem qU(I:St S w H)(M:FR S w ρ a)(T:Grow S0 w0 S w)(hN:eY S0.N H0 H)(Z:a.defers=[])(O:a.tmps.size=n)(hb:∀x∈o.op.operands,opB n x=true){G:Option Bool}
   (E:Region.wanted o (yielded ops a.tmps)=true↔gt G) (hK:∀F H' a' w',K F H'->Rel n S0 w0 H0 F H' a' w'->K' a' w') (h:gK P G ρ H o.op fun x=>K (upd ρ o.dst (wr G x)) H):
   xA P ops o a w K' Q':=by
 obtain⟨z,hz,hg⟩:=DI (O▸hb) M I.rows h;refine⟨fun J=>?_,fun J=>?_⟩
 . have u:=E.1 J
   obtain⟨v,hv,hr⟩:=hg u;exact eK (hr w (Agree.refl S H w) o rfl) (hK _ _ _ _ hz (Rel.step I M T hN Z O I (Grow.refl S w) (eY.refl _ _) (fC u hv)))
 . have u:¬gt G:=fun h=>by rw[E.2 h]at J;simp at J
   exact hK _ _ _ _ hz (Rel.step I M T hN Z O I (Grow.refl S w) (eY.refl _ _) (eN u))
theorem oB(E:St S w H){r:Option Row}:eY S.N H (aI H S.N r):=fun k u h=>by rw[aD _ _ _ _ (Nat.ne_of_lt u)];exact h
theorem acV(t:TypeId)(v:Value)(w:World):(Instr.box t v).run P w=.ok (.pointer (some ⟨w.heap.size,0,none⟩)) (w.alloc (.cells v.cells t)):=by
 simp[Instr.box,newVar,newRow]
theorem TE{t:TypeId}{z:List AV}(h:dO P t=some z)(F:Value)(w:World):∃(v:Value) (i:TypeInfo),P.info? t=some i/\z=v.cells.toList.map pJ/\(∀u∈v.cells.toList,u.oneCell'=true)/\v.cells.size≠0 /\
   (Instr.alloc t true F).run P w=.ok (.pointer (some ⟨w.heap.size,0,none⟩)) (w.alloc (.cells v.cells t)):=by
 obtain⟨i,v,M,O,J,E,I,h1⟩:=mP h;refine⟨v,i,M,J,h1,by rw[E];exact I,?_⟩;simp[Instr.alloc,zeroValue,typeInfo,M,O,newVar,newRow]
theorem CV(J:St S w H){t:TypeId}{cs:List AV}{l:List Value}(E:0<cs.length)(F:bG S w cs l)(h1:∀u∈l,u.oneCell'=true):
   ∃S',St S' (w.alloc (.cells l.toArray t)) (aI H S.N (some ⟨t,cs.length,[cs]⟩))/\Grow S w S' (w.alloc (.cells l.toArray t))/\rep S' (w.alloc (.cells l.toArray t)) (.op S.N 0 0) (.pointer (some ⟨w.heap.size,0,none⟩)):=by
 have I:=gQ _ _ F;have:=J.newRow (e:=t) (sz:=cs.length) (cap:=1) (es:=[cs]) (xs:=l) (cur:=l.toArray) E (by simp) (by simpa using F) h1 (by simp) (by simp[maxLen]) (by simp[I]) (by simp[<-I]) (w':=w.alloc (.cells l.toArray t)) rfl rfl rfl rfl;refine⟨_,this.1,this.2,?_⟩;simp only[rep,Sg.addRow];exact⟨Nat.lt_succ_self _,w.heap.size,1,1,by simp,by simp⟩
theorem E3:∀(i n:Nat),JR i n=List.range' i n
 | _,0=>rfl
 | i,n+1=>by simp[JR,List.range'_succ,E3 (i+1) n]
theorem Hw{sz n:Nat}:∀(l:List (Nat×List AV)) (vs:List (Nat×Value)) (i:Nat) (A:Array Value),l.map (·.1)=JR i l.length->cZ sz (l.map (·.2))->l.length=vs.length ->
   (∀(j k:Nat) (c:List AV),l[j]?=some (k,c)->∃(v:Value) (l':List Value),vs[j]?=some (k,v)/\v.cells=List.toArray l'/\bG S w c l'/\∀u∈l',u.oneCell'=true)->A.size=n*sz->i+l.length=n ->
   ∃xs:List Value,Instr.fill (fun i=>some (i*sz,sz)) A vs=some (A.toList.take (i*sz)++xs).toArray/\bG S w (l.map (·.2)).flatten xs/\∀u∈xs,u.oneCell'=true
 | [],vs,i,A,_,_,hl,_,hA,hi=>by
   have:vs=[]:=List.eq_nil_of_length_eq_zero (by simpa using hl.symm);subst this;refine⟨[],?_,by simp[bG],by simp⟩;simp only[Instr.fill,List.append_nil];have:i=n:=by simpa using hi
   subst this;rw[List.take_of_length_le (by simp[hA])]
 | (k,c)::rest,vs,i,A,E,hlen,hl,hv,hA,hi=>by
   simp only[List.map_cons,List.length_cons,JR,List.cons.injEq]at E;obtain⟨rfl,E⟩:=E;simp only[List.map_cons,cZ]at hlen;obtain⟨v,l',M,e2,O,e4⟩:=hv 0 k c (by simp);cases vs with
   | nil=>simp at M
   | cons q vs=>
     simp at M;subst M;have F:l'.length=sz:=by rw[gQ _ _ O];exact hlen.1
     simp only[List.length_cons]at hi;have hm:(k+1)*sz<=n*sz:=Nat.mul_le_mul_right _ (by omega);rw[Nat.add_mul,Nat.one_mul]at hm;have T:=CT l' 0 A (k*sz) (by rw[F,hA];omega);simp only[Nat.add_zero]at T;obtain⟨xs,f1,f2,f3⟩:=Hw (n:=n) rest vs (k+1) (A.toList.take (k*sz)++l'++A.toList.drop (k*sz+l'.length)).toArray E hlen.2 (by simpa using hl) (fun j i c hj=>by simpa using hv (j+1) i c (by simpa using hj))
       (by simp only[List.size_toArray,List.length_append,List.length_take,List.length_drop,Array.length_toList,F,hA];omega) (by omega)
     refine⟨l'++xs,?_,?_,?_⟩
     . simp only[Instr.fill,e2,List.size_toArray,F]
       rw[if_neg (by simp[hA];omega)];have I:(Array.foldl (fun cs (x:Value×Nat)=>cs.setIfInBounds (k*sz+x.2) x.1) A l'.toArray.zipIdx)=(A.toList.take (k*sz)++l'++A.toList.drop (k*sz+l'.length)).toArray:=by
         rw[<-T,<-Array.foldl_toList];simp
       rw[I,f1]
       congr 2
       have Z:List.take ((k+1)*sz) (A.toList.take (k*sz)++l'++A.toList.drop (k*sz+l'.length))=A.toList.take (k*sz)++l':=by
         rw[Nat.add_mul,Nat.one_mul,List.take_append_of_le_length (by rw[List.length_append,List.length_take,Array.length_toList,F,hA];omega),List.take_of_length_le (by rw[List.length_append,List.length_take,Array.length_toList,F,hA];omega)]
       rw[Z,List.append_assoc]
     . simp only[List.map_cons,List.flatten_cons]
       exact dI _ _ _ _ O f2
     . intro u J
       rcases List.mem_append.1 J with J|J
       . exact e4 u J
       . exact f3 u J
theorem Fc{t e:TypeId}{sz O:Nat}(he:bW P t=some (e,sz,O)){l:List (Nat×List AV)}{E:Array (Nat×Value)}{m:Nat}(M:l.map (·.1)=JR 0 m)(J:cZ sz (l.map (·.2)))(hl:l.length=E.toList.length)
   (hv:∀(j k:Nat) (c:List AV),l[j]?=some (k,c)->∃(v:Value) (l':List Value),E.toList[j]?=some (k,v)/\v.cells=List.toArray l'/\bG S w c l'/\∀u∈l',u.oneCell'=true) (hm:m*sz<=16777216):
   ∃xs:List Value,(Instr.buildSlice t m E).run P w=.ok (.slice (some ⟨w.heap.size,0,none⟩) m m) (w.alloc (.cells xs.toArray e))/\bG S w (l.map (·.2)).flatten xs/\(∀u∈xs,u.oneCell'=true)/\l.length=m/\xs.length=m*sz:=by
 obtain⟨I,z,hu,hi,rfl,_,ad,_,hz,ae⟩:=iN he;have T:l.length=m:=by
   have:=congrArg List.length M;simpa[E3]using this
 have F:∀xs:List Value,bG S w (l.map (·.2)).flatten xs->xs.length=m*I.size:=fun xs h=>by
   rw[gQ _ _ h,nO _ (iM.1 J),List.length_map,T]
 subst T;obtain⟨xs,f1,f2,f3⟩:=Hw (n:=l.length) l E.toList 0 ((Array.range (l.length*I.size)).map (z.cells[·%z.cells.size]!)) M J hl hv (by simp) (by simp);simp only[Nat.zero_mul,List.take_zero,List.nil_append]at f1;refine⟨xs,?_,f2,f3,rfl,F xs f2⟩;have aa:¬l.length*I.size>2^24:=by simpa using hm
 by_cases h0:l.length*I.size=0
 . have Z : l.length = 0 := by
     rcases Nat.mul_eq_zero.1 h0 with h|h
     . exact h
     . omega
   have ab:E.toList=[]:=List.eq_nil_of_length_eq_zero (by rw[<-hl,Z]);have ac:xs=[]:=List.eq_nil_of_length_eq_zero (by rw[F xs f2,h0]);subst ac;simp[Instr.buildSlice,run_underlying hu,sizeOf,typeInfo,hi,h0,ab,Instr.fill,newRow,Z];have:(Array.range 0).map (fun _=>(default:Value))=#[]:=Array.eq_empty_of_size_eq_zero (by simp);rw[this]
 . simp[Instr.buildSlice,run_underlying hu,sizeOf,typeInfo,hi,aa,h0,zeroValue,hz,newRow]
   rw[f1];simp
end
end Go.Aw
end
