import Derived.ArgAppend
import Derived.Deep.LoopGhost
import Derived.Test.YtohmomanmikphaaGreatDoorPf02
set_option linter.unusedSimpArgs false
set_option linter.unusedVariables false
set_option maxRecDepth 100000
section
namespace Go.Aw
open Go.RowKit
def pI(w:World)(g:Nat):Option (Array Value):=match w.heap[g]? with
 | some (.cells cs _ _)=>some cs
 | _=>none
def IJ(S:Sg)(w:World):Prop:=∀t∈SA,S.ro t.1/\pI w t.1=some t.2
theorem IJ.keep{S S':Sg}{w w':World}(h:IJ S w)(E:S.le S')(F:eL S w w'):IJ S' w':=fun t u=>
 ⟨E.ro _ (h t u).1,by unfold pI;rw[F t.1 (h t u).1];exact(h t u).2⟩
structure St(S:Sg)(w:World)(H:aG):Prop where
 ro_fz:∀k,S.ro k->S.fz k
 fz_lt:∀k,S.fz k->k<w.heap.size
 rows:xF S w H
 free:∀k r,H k=some r->∀g,blk (S.loc k)=some g->¬S.fz g
 disj:∀k k' r r',H k=some r->H k'=some r'->k≠k'->∀g,blk (S.loc k)=some g->blk (S.loc k')≠some g
 tabs:IJ S w
structure Grow(S:Sg)(w:World)(S':Sg)(w':World):Prop where
 le:S.le S'
 fz:∀k,S.fz k->S'.fz k
 os:w'.os=w.os
 tape:w'.tape=w.tape
 output:w'.output=w.output
 size:w.heap.size<=w'.heap.size
 same:∀k,S.fz k->w'.heap[k]?=w.heap[k]?
 newro:∀k,S'.ro k->S.ro k\/¬S.fz k
theorem Grow.refl(S:Sg)(w:World):Grow S w S w:=⟨S.le_refl,fun _ h=>h,rfl,rfl,rfl,Nat.le_refl _,fun _ _=>rfl,fun _ h=>.inl h⟩
theorem Grow.trans{S S' F:Sg}{w w' I:World}(h:Grow S w S' w')(u:Grow S' w' F I):Grow S w F I:=
 ⟨Sg.le_trans h.le u.le,fun k E=>u.fz k (h.fz k E),u.os.trans h.os,u.tape.trans h.tape,u.output.trans h.output,Nat.le_trans h.size u.size,
   fun k E=>(u.same k (h.fz k E)).trans (h.same k E),
   fun k E=>by rcases u.newro k E with h1|h1;exact h.newro k h1;exact .inr fun J=>h1 (h.fz k J)⟩
def eH(N:Nat)(H H':aG):Prop:=∀k,k<N->H k=none->H' k=none
theorem eH.refl(N:Nat)(H:aG):eH N H H:=fun _ _ h=>h
theorem eH.trans{N E:Nat}{H H' u:aG}(h:eH N H H')(J:eH E H' u)(I:N<=E):eH N H u:=fun k F h0=>J k (Nat.lt_of_lt_of_le F I) (h k F h0)
section
variable{S S':Sg}{w w':World}{H H':aG}
theorem St.kept(E:St S w H)(u:∀k,S.fz k->w'.heap[k]?=w.heap[k]?):eL S w w':=fun k F=>u k (E.ro_fz k F)
theorem Grow.kept(E:St S w H)(u:Grow S w S' w'):eL S w w':=E.kept u.same
theorem St.fresh(u:St S w H):H S.N=none:=by
 cases h:H S.N with
 | none=>rfl
 | some r=>exact absurd (u.rows _ r h).lt (Nat.lt_irrefl _)
theorem RowOK.block_lt{k:Nat}{r:Row}(h:RowOK S w k r){g:Nat}(u:blk (S.loc k)=some g):g<w.heap.size:=by
 rcases h.own with⟨xs,E,_⟩|⟨I,ms,h1,F,_⟩
 . refine(E.lt g ?_).2
   rcases E.2 with⟨hv,_⟩|⟨_,_,_,hv,_⟩ <;> (rw[hv]at u |-;exact u)
 . rw[h1]at u
   injection u with u;subst u;exact(Array.getElem?_eq_some_iff.1 F).1
theorem Bl(u:S.le S')(E:eL S w w'):∀(i:Nat) (es:List (List AV)) (ms:List MapEntry),jL S w i es ms->jL S' w' i es ms
 | _,[],_,h=>h
 | i,cs::r,ms,h=>by
   simp only[jL]at h |-;obtain⟨m,t,rfl,h1,I,F⟩:=h;exact⟨m,t,rfl,h1,dD u E _ _ I,Bl u E (i+1) r t F⟩
theorem RowOK.keep{k:Nat}{r:Row}(h:RowOK S w k r)(u:S.le S')(O:eL S w w')(J:∀g,blk (S.loc k)=some g->w'.heap[g]?=w.heap[g]?):RowOK S' w' k r:=by
 refine⟨Nat.lt_of_lt_of_le h.lt u.N,by rw[u.sz k h.lt];exact h.sz,h.pos,h.len,?_⟩;rcases h.own with⟨xs,I,Z,h1⟩|⟨g,ms,h1,F,E⟩
 . refine .inl ?_
   unfold HT;rw[u.loc k h.lt];refine⟨xs,⟨I.1,?_⟩,dD u O _ _ Z,h1⟩;rcases I.2 with F|⟨g,cap,cur,M,E,T,h5⟩
   . exact .inl F
   . exact .inr ⟨g,cap,cur,M,E,by rw[J g (by rw[M];rfl)];exact T,h5⟩
 . refine .inr ⟨g,ms,?_,?_,Bl u O 0 _ _ E.1,E.2⟩
   . rw[u.loc k h.lt];exact h1
   . rw[J g (by rw[h1];rfl)];exact F
theorem FR.keep{ρ:Env}{a:Act}(h:FR S w ρ a)(u:S.le S')(F:eL S w w'):FR S' w' ρ a:=fun t E=>jI u F _ _ (h t E)
theorem FR.put{ρ:Env}{a:Act}(h:FR S w ρ a){d:Option Nat}{z:AV}{v:Value}(I:rep S w z v):FR S w (upd ρ d z) (a.put d v):=by
 intro t E;cases d with
 | none=>exact h t E
 | some d=>
   simp only[Act.put,upd]at E |-;have u:t<a.tmps.size:=by simpa using E
   by_cases e:t=d
   . subst e
     simpa[Array.getD,u]using I
   . have h1:=h t u
     have F:d≠t:=fun h=>e h.symm
     simp only[if_neg e];have:(a.tmps.setIfInBounds d v).getD t undef=a.tmps.getD t undef:=by
       simp[Array.getD_eq_getD_getElem?,Array.getElem?_setIfInBounds,F]
     rw[this];exact h1
def Sg.addRow(S:Sg)(v:Value)(sz:Nat):Sg:={ S with loc:=fun k=>if k=S.N then v else S.loc k,sz:=fun k=>if k=S.N then sz else S.sz k,N:=S.N+1 }
theorem Sg.le_addRow(S:Sg)(v:Value)(sz:Nat):S.le (S.addRow v sz):=
 ⟨fun _ h=>h,Nat.le_succ _,fun k u=>by simp[Sg.addRow,Nat.ne_of_lt u],fun k u=>by simp[Sg.addRow,Nat.ne_of_lt u]⟩
theorem gB{k:Nat}{r:Option Row}:aI H k r k=r:=aA H k r
theorem St.newRow(M:St S w H){e:TypeId}{sz cap:Nat}{es:List (List AV)}{xs:List Value}{cur:Array Value}(aj:0<sz)(ad:∀cs∈es,cs.length=sz)
   (hr:bF S w es.flatten xs) (h1:∀u∈xs,u.oneCell'=true) (hn:es.length<=cap) (ah:cap<=maxLen) (ai:cur.size=cap*sz) (ae:cur.toList.take (es.length*sz)=xs) {w':World}
   (hw:w'.heap=w.heap.push (.cells cur e)) (an:w'.os=w.os) (af:w'.tape=w.tape) (am:w'.output=w.output):
   St (S.addRow (.slice (some ⟨w.heap.size,0,none⟩) es.length cap) sz) w' (aI H S.N (some ⟨e,sz,es⟩))/\Grow S w (S.addRow (.slice (some ⟨w.heap.size,0,none⟩) es.length cap) sz) w':=by
 have T:∀k,k<w.heap.size->w'.heap[k]?=w.heap[k]?:=fun k F=>by rw[hw,Array.getElem?_push,if_neg (by omega)]
 have ag:w'.heap[w.heap.size]?=some (.cells cur e (0,0)):=by rw[hw];simp
 have ao:w'.heap.size=w.heap.size+1:=by rw[hw];simp
 have ac:=S.le_addRow (.slice (some ⟨w.heap.size,0,none⟩) es.length cap) sz;have O:eL S w w':=fun k F=>T k (M.fz_lt k (M.ro_fz k F))
 have E:(S.addRow (.slice (some ⟨w.heap.size,0,none⟩) es.length cap) sz).loc S.N=.slice (some ⟨w.heap.size,0,none⟩) es.length cap:=by simp[Sg.addRow]
 have aa:∀k,k<S.N->(S.addRow (.slice (some ⟨w.heap.size,0,none⟩) es.length cap) sz).loc k=S.loc k:=ac.loc;have I:∀k r,k≠S.N->aI H S.N (some ⟨e,sz,es⟩) k=some r->H k=some r:=fun k r F h=>by rwa [aD _ _ _ _ F]at h
 refine⟨⟨M.ro_fz,fun k F=>by have:=M.fz_lt k F;omega,?_,?_,?_,M.tabs.keep ac O⟩,⟨ac,fun _ h=>h,an,af,am,by omega,fun k F=>T k (M.fz_lt k F),fun _ h=>.inl h⟩⟩
 . intro k r F
   by_cases e0:k=S.N
   . subst e0
     rw[gB]at F;injection F with F;subst F;refine⟨Nat.lt_succ_self _,by simp[Sg.addRow],aj,ad,.inl ⟨xs,⟨?_,.inr ⟨w.heap.size,cap,cur,E,Nat.zero_le _,ag,hn,ah,ai,ae⟩⟩,dD ac O _ _ hr,h1⟩⟩;rw[fV _ _ hr,mH es ad]
   . have J:=I k r e0 F
     exact(M.rows k r J).keep ac O fun g hg=>T g ((M.rows k r J).block_lt hg)
 . intro k r F g hg
   by_cases e0:k=S.N
   . subst e0
     rw[E]at hg;simp only[blk,Option.some.injEq]at hg;subst hg;exact fun h=>Nat.lt_irrefl _ (M.fz_lt _ h)
   . have J:=I k r e0 F
     rw[aa k (M.rows k r J).lt]at hg;exact M.free k r J g hg
 . intro k k' r r' F J al g hg Z
   by_cases e0:k=S.N
   . subst e0
     rw[E]at hg;simp only[blk,Option.some.injEq]at hg;subst hg;have ab:=I k' r' (Ne.symm al) J;rw[aa k' (M.rows k' r' ab).lt]at Z;exact Nat.lt_irrefl _ ((M.rows k' r' ab).block_lt Z)
   . have ab:=I k r e0 F
     rw[aa k (M.rows k r ab).lt]at hg;by_cases e1:k'=S.N
     . subst e1
       rw[E]at Z;simp only[blk,Option.some.injEq]at Z;subst Z;exact Nat.lt_irrefl _ ((M.rows k r ab).block_lt hg)
     . have ak:=I k' r' e1 J
       rw[aa k' (M.rows k' r' ak).lt]at Z;exact M.disj k k' r r' ab ak al g hg Z
theorem St.newMap(F:St S w H){w':World}(hw:w'.heap=w.heap.push (.map #[] 0))(ah:w'.os=w.os)(ac:w'.tape=w.tape)(ag:w'.output=w.output):
   St (S.addRow (.map (some w.heap.size)) 2) w' (aI H S.N (some ⟨0,2,[]⟩))/\Grow S w (S.addRow (.map (some w.heap.size)) 2) w':=by
 have O:∀k,k<w.heap.size->w'.heap[k]?=w.heap[k]?:=fun k E=>by rw[hw,Array.getElem?_push,if_neg (by omega)]
 have ad:w'.heap[w.heap.size]?=some (.map #[] 0):=by rw[hw];simp
 have ai:w'.heap.size=w.heap.size+1:=by rw[hw];simp
 have M:=S.le_addRow (.map (some w.heap.size)) 2;have ab:eL S w w':=fun k E=>O k (F.fz_lt k (F.ro_fz k E))
 have u:(S.addRow (.map (some w.heap.size)) 2).loc S.N=.map (some w.heap.size):=by simp[Sg.addRow]
 have I:∀k r,k≠S.N->aI H S.N (some ⟨0,2,[]⟩) k=some r->H k=some r:=fun k r E h=>by rwa [aD _ _ _ _ E]at h
 refine⟨⟨F.ro_fz,fun k E=>by have:=F.fz_lt k E;omega,?_,?_,?_,F.tabs.keep M ab⟩,⟨M,fun _ h=>h,ah,ac,ag,by omega,fun k E=>O k (F.fz_lt k E),fun _ h=>.inl h⟩⟩
 . intro k r E
   by_cases e0:k=S.N
   . subst e0
     rw[gB]at E;injection E with E;subst E;exact⟨Nat.lt_succ_self _,by simp[Sg.addRow],by simp,by simp,.inr ⟨w.heap.size,[],u,ad,by simp[jL],rfl⟩⟩
   . have J:=I k r e0 E
     exact(F.rows k r J).keep M ab fun g Z=>O g ((F.rows k r J).block_lt Z)
 . intro k r E g Z
   by_cases e0:k=S.N
   . subst e0
     rw[u]at Z;simp only[blk,Option.some.injEq]at Z;subst Z;exact fun h=>Nat.lt_irrefl _ (F.fz_lt _ h)
   . have J:=I k r e0 E
     rw[M.loc k (F.rows k r J).lt]at Z;exact F.free k r J g Z
 . intro k k' r r' E J af g Z T
   by_cases e0:k=S.N
   . subst e0
     rw[u]at Z;simp only[blk,Option.some.injEq]at Z;subst Z;have aa:=I k' r' (Ne.symm af) J;rw[M.loc k' (F.rows k' r' aa).lt]at T;exact Nat.lt_irrefl _ ((F.rows k' r' aa).block_lt T)
   . have aa:=I k r e0 E
     rw[M.loc k (F.rows k r aa).lt]at Z;by_cases e1:k'=S.N
     . subst e1
       rw[u]at T;simp only[blk,Option.some.injEq]at T;subst T;exact Nat.lt_irrefl _ ((F.rows k r aa).block_lt Z)
     . have ae:=I k' r' e1 J
       rw[M.loc k' (F.rows k' r' ae).lt]at T;exact F.disj k k' r r' aa ae af g Z T
theorem St.setMap(M:St S w H){k g:Nat}{r:Row}(hk:H k=some r)(hl:S.loc k=.map (some g)){ms:List MapEntry}{es:List (List AV)}(he:jL S w 0 es ms)(h2:r.sz=2)(ah:g<w.heap.size):
   St S { w with heap:=w.heap.setIfInBounds g (.map ms.toArray ms.length) } (aI H k (some { r with es:=es }))/\Grow S w S { w with heap:=w.heap.setIfInBounds g (.map ms.toArray ms.length) }:=by
 have hR:=M.rows k r hk;have ad:¬S.fz g:=M.free k r hk g (by rw[hl];rfl);have F:∀j,j≠g->(w.heap.setIfInBounds g (.map ms.toArray ms.length))[j]?=w.heap[j]?:=fun j u=>by rw[Array.getElem?_setIfInBounds,if_neg (Ne.symm u)]
 have ab:(w.heap.setIfInBounds g (.map ms.toArray ms.length))[g]?=some (.map ms.toArray ms.length):=by rw[Array.getElem?_setIfInBounds];simp[ah]
 have E:eL S w { w with heap:=w.heap.setIfInBounds g (.map ms.toArray ms.length) }:=fun j u=>F j (fun e=>ad (e▸M.ro_fz j u))
 have p:∀j r',aI H k (some { r with es:=es }) j=some r'->∃T,H j=some T:=fun j r' u=>by
   by_cases e:j=k
   . subst e;exact⟨r,hk⟩
   . rw[aD _ _ _ _ e]at u;exact⟨_,u⟩
 have aa:∀(i:Nat) (es:List (List AV)) (ms:List MapEntry),jL S w i es ms->∀cs∈es,cs.length=2:=by
   intro i es;induction es generalizing i with
   | nil=>simp
   | cons c es ih=>
     intro ms h cs J;simp only[jL]at h;obtain⟨m,t,rfl,_,h4,h5⟩:=h;rcases List.mem_cons.1 J with rfl|J
     . have:=fV _ _ h4;simpa using this.symm
     . exact ih (i+1) t h5 cs J
 refine⟨⟨M.ro_fz,fun j u=>by simpa using M.fz_lt j u,?_,?_,?_,M.tabs.keep S.le_refl E⟩,⟨S.le_refl,fun _ h=>h,rfl,rfl,rfl,by simp,fun j u=>F j (fun e=>ad (e▸u)),fun _ h=>.inl h⟩⟩
 . intro j r' u
   by_cases e:j=k
   . subst e
     rw[gB]at u;injection u with u;subst u;exact⟨hR.lt,hR.sz,hR.pos,fun cs J=>(aa 0 es ms he cs J).trans h2.symm,.inr ⟨g,ms,hl,ab,Bl S.le_refl E 0 _ _ he,h2⟩⟩
   . rw[aD _ _ _ _ e]at u
     exact(M.rows j r' u).keep S.le_refl E fun Z I=>F Z (fun e'=>M.disj j k r' r u hk e Z I (by rw[hl,e'];rfl))
 . intro j r' u Z I
   obtain⟨T,O⟩:=p j r' u;exact M.free j T O Z I
 . intro j j' r1 r2 u O ac Z I ae
   obtain⟨q1,ag⟩:=p j r1 u;obtain⟨q2,af⟩:=p j' r2 O;exact M.disj j j' q1 q2 ag af ac Z I ae
theorem St.nilRow(O:St S w H)(e:TypeId){sz:Nat}(ab:0<sz):
   St (S.addRow (.slice none 0 0) sz) w (aI H S.N (some ⟨e,sz,[]⟩))/\Grow S w (S.addRow (.slice none 0 0) sz) w:=by
 have F:=S.le_addRow (.slice none 0 0) sz;have u:(S.addRow (.slice none 0 0) sz).loc S.N=.slice none 0 0:=by simp[Sg.addRow]
 have E:∀k r,k≠S.N->aI H S.N (some ⟨e,sz,[]⟩) k=some r->H k=some r:=fun k r J h=>by rwa [aD _ _ _ _ J]at h
 refine⟨⟨O.ro_fz,O.fz_lt,?_,?_,?_,O.tabs.keep F (eL.refl S w)⟩,⟨F,fun _ h=>h,rfl,rfl,rfl,Nat.le_refl _,fun _ _=>rfl,fun _ h=>.inl h⟩⟩
 . intro k r J
   by_cases Z:k=S.N
   . subst Z
     rw[gB]at J;injection J with J;subst J;refine⟨Nat.lt_succ_self _,by simp[Sg.addRow],ab,by simp,.inl ⟨[],⟨by simp,.inl ⟨u,rfl⟩⟩,by simp[bF],by simp⟩⟩
   . have I:=E k r Z J
     exact(O.rows k r I).keep F (eL.refl S w) fun _ _=>rfl
 . intro k r J g M
   by_cases Z:k=S.N
   . subst Z
     rw[u]at M;simp[blk]at M
   . have I:=E k r Z J
     rw[F.loc k (O.rows k r I).lt]at M;exact O.free k r I g M
 . intro k k' r r' J I ad g M T
   by_cases Z:k=S.N
   . subst Z
     rw[u]at M;simp[blk]at M
   . have aa:=E k r Z J
     rw[F.loc k (O.rows k r aa).lt]at M;by_cases e1:k'=S.N
     . subst e1
       rw[u]at T;simp[blk]at T
     . have ac:=E k' r' e1 I
       rw[F.loc k' (O.rows k' r' ac).lt]at T;exact O.disj k k' r r' aa ac ad g M T
def Sg.addRo(S:Sg)(g:Nat):Sg:={ S with ro:=fun k=>S.ro k\/k=g,fz:=fun k=>S.fz k\/k=g }
theorem Sg.le_addRo(S:Sg)(g:Nat):S.le (S.addRo g):=⟨fun _ h=>.inl h,Nat.le_refl _,fun _ _=>rfl,fun _ _=>rfl⟩
theorem St.newRo(F:St S w H){o:Obj}{w':World}(hw:w'.heap=w.heap.push o)(aa:w'.os=w.os)(M:w'.tape=w.tape)(T:w'.output=w.output):
   St (S.addRo w.heap.size) w' H/\Grow S w (S.addRo w.heap.size) w':=by
 have E:∀k,k<w.heap.size->w'.heap[k]?=w.heap[k]?:=fun k u=>by rw[hw,Array.getElem?_push,if_neg (by omega)]
 have ab:w'.heap.size=w.heap.size+1:=by rw[hw];simp
 have J:=S.le_addRo w.heap.size;have I:eL S w w':=fun k u=>E k (F.fz_lt k (F.ro_fz k u))
 refine⟨⟨fun k u=>u.imp (F.ro_fz k) id,fun k u=>?_,fun k r u=>(F.rows k r u).keep J I fun g Z=>E g ((F.rows k r u).block_lt Z),fun k r u g Z O=>?_,F.disj,F.tabs.keep J I⟩,
   ⟨J,fun _ h=>.inl h,aa,M,T,by omega,fun k u=>E k (F.fz_lt k u),fun k u=>u.imp id (fun e O=>by have:=F.fz_lt k O;omega)⟩⟩
 . rcases u with u|u
   . have:=F.fz_lt k u;omega
   . omega
 . rcases O with O|O
   . exact F.free k r u g Z O
   . have:=(F.rows k r u).block_lt Z;omega
theorem RowOK.open{k:Nat}{r:Row}(h:RowOK S w k r){E:Option Addr}{n0 O:Nat}(F:S.loc k=.slice E n0 O)(I:r.es≠[]):∃g cap cur,S.loc k=.slice (some ⟨g,0,none⟩) r.es.length cap/\w.heap[g]?=some (.cells cur r.e (0,0))/\r.es.length<=cap/\cap<=maxLen/\cur.size=cap*r.sz /\
   bF S w r.es.flatten (cur.toList.take (r.es.length*r.sz))/\∀u∈cur.toList.take (r.es.length*r.sz),u.oneCell'=true:=by
 obtain⟨xs,ho,T,h1⟩:=h.sl F;rcases ho.2 with⟨_,Z⟩|⟨g,cap,cur,hv,_,h2,J,M,h5,h6⟩
 . exact absurd (List.eq_nil_of_length_eq_zero Z) I
 . subst h6
   exact⟨g,cap,cur,hv,h2,J,M,h5,T,h1⟩
theorem wW:∀(es:List (List AV)) (i:Nat) (cs:List AV) {sz:Nat},(∀c∈es,c.length=sz)->i<es.length->cs.length=sz ->
   (es.set i cs).flatten=es.flatten.take (i*sz)++cs++es.flatten.drop (i*sz+sz)
 | [],_,_,_,_,h,_=>by simp at h
 | x::r,0,cs,sz,hl,_,u=>by
   have E:=hl x (by simp);simp[<-E]
 | x::r,i+1,cs,sz,hl,hi,u=>by
   have E:=hl x (by simp);have ih:=wW r i cs (fun c u=>hl c (by simp[u])) (by simpa using hi) u;simp only[List.set_cons_succ,List.flatten_cons,ih];have F:(i+1)*sz=x.length+i*sz:=by rw[E,Nat.add_mul];omega
   rw[F,Nat.add_assoc,List.take_append,List.drop_append];simp[List.take_of_length_le,List.drop_eq_nil_of_le,Nat.add_assoc]
theorem St.store(M:St S w H){k:Nat}{r:Row}(hk:H k=some r){i f:Nat}{cs:List AV}{l:List Value}(Z:i<r.es.length)(hf:f+cs.length<=r.sz){ax:Option Addr}{n0 c0:Nat}(ar:S.loc k=.slice ax n0 c0)
   (hr:bF S w cs l) (h1:∀u∈l,u.oneCell'=true):
   ∃g n c w',S.loc k=.slice (some ⟨g,0,none⟩) n c/\(∀P:Program,(storeCells ⟨g,i*r.sz+f,none⟩ l).run P w=.ok () w') /\
     St S w' (aI H k (some { r with es:=r.es.set i (mX (r.es.getD i []) f cs) }))/\Grow S w S w':=by
 have T:=M.rows k r hk;have ay:r.es≠[]:=fun e=>by rw[e]at Z;simp at Z
 obtain⟨g,cap,cur,I,hg,ae,au,aq,ah,ac⟩:=T.open ar ay;have ad:=fV _ _ hr;have ai:(i+1)*r.sz<=r.es.length*r.sz:=Nat.mul_le_mul_right _ Z;have ao:r.es.length*r.sz<=cap*r.sz:=Nat.mul_le_mul_right _ ae;rw[Nat.add_mul,Nat.one_mul]at ai;have af:∀P:Program,_:=fun P=>run_storeCells_at (P:=P) g (i*r.sz+f) r.e l 0 cur w hg (by rw[ad,aq];omega) h1
 simp only[Nat.add_zero]at af;refine⟨g,_,cap,_,I,af,?_,?_⟩
 . have O:∀j,j≠g->(w.setRow g (List.take (i*r.sz+f) cur.toList++l++List.drop (i*r.sz+f+l.length) cur.toList).toArray).heap[j]?=w.heap[j]?:=fun j E=>setRow_other w g j _ E
   have ap:¬S.fz g:=M.free k r hk g (by rw[I];rfl);have F:eL S w (w.setRow g (List.take (i*r.sz+f) cur.toList++l++List.drop (i*r.sz+f+l.length) cur.toList).toArray):=fun j E=>O j (fun e=>ap (e▸M.ro_fz j E))
   have ab:(r.es.getD i []).length=r.sz:=by
     simp only[List.getD,List.getElem?_eq_getElem Z,Option.getD_some];exact T.len _ (List.getElem_mem Z)
   have aa:(mX (r.es.getD i []) f cs).length=r.sz:=by
     simp only[mX,List.length_append,List.length_take,List.length_drop,ab];omega
   have e2 : List.take (r.es.length * r.sz) (List.take (i * r.sz + f) cur.toList ++ l ++ List.drop (i * r.sz + f + l.length) cur.toList) =
       (cur.toList.take (r.es.length*r.sz)).take (i*r.sz+f)++l++(cur.toList.take (r.es.length*r.sz)).drop (i*r.sz+f+l.length):=by
     rw[List.take_take,Nat.min_eq_left (by omega),List.drop_take];rw[List.take_append,List.take_append];simp only[List.length_append,List.length_take,Array.length_toList];rw[Nat.min_eq_left (by omega:i*r.sz+f<=cur.size)];rw[List.take_of_length_le (l:=List.take (i*r.sz+f) cur.toList) (by simp;omega),List.take_of_length_le (l:=l) (by omega)]
   refine⟨M.ro_fz,fun j E=>by simpa using M.fz_lt j E,?_,?_,?_,M.tabs.keep S.le_refl F⟩
   . intro j r' E
     by_cases e:j=k
     . subst e
       rw[gB]at E;injection E with E;subst E;refine⟨T.lt,T.sz,T.pos,?_,.inl ?_⟩
       . intro c hc
         rcases List.mem_or_eq_of_mem_set hc with hc|rfl
         . exact T.len c hc
         . exact aa
       . refine⟨(List.take (i*r.sz+f) cur.toList++l++List.drop (i*r.sz+f+l.length) cur.toList).take (r.es.length*r.sz),⟨?_,.inr ⟨g,cap,_,by simpa using I,Nat.zero_le _,setRow_heap w g cur _ _ _ hg,by simpa using ae,au,?_,by simp⟩⟩,?_,?_⟩
         . simp only[List.length_set,List.length_take,List.length_append,List.length_drop,Array.length_toList]
           omega
         . simp only[List.size_toArray,List.length_append,List.length_take,List.length_drop,Array.length_toList]
           omega
         . have hx:=(dD (S.le_refl) F _ _ ah)
           have hy:=(dD (S.le_refl) F _ _ hr);have e1:(r.es.set i (mX (r.es.getD i []) f cs)).flatten=r.es.flatten.take (i*r.sz+f)++cs++r.es.flatten.drop (i*r.sz+f+l.length):=by
             rw[wW r.es i _ T.len Z aa];have am:r.es.flatten.length=r.es.length*r.sz:=mH _ T.len;have ag:r.es.getD i []=(r.es.flatten.drop (i*r.sz)).take r.sz:=by
               have h0:=wW r.es i (r.es.getD i []) T.len Z ab;have hs:r.es.set i (r.es.getD i [])=r.es:=by
                 simp only[List.getD,List.getElem?_eq_getElem Z,Option.getD_some];exact List.set_getElem_self Z
               rw[hs]at h0;have h3:(r.es.flatten.drop (i*r.sz)).take r.sz=((r.es.flatten.take (i*r.sz)++r.es.getD i []++r.es.flatten.drop (i*r.sz+r.sz)).drop (i*r.sz)).take r.sz:=by rw[<-h0]
               rw[h3,List.append_assoc,List.drop_append_of_le_length (by rw[List.length_take];omega)];rw[List.drop_eq_nil_of_le (by rw[List.length_take];omega),List.nil_append,List.take_append_of_le_length (by omega),List.take_of_length_le (by omega)]
             rw[ag,mX];have a1:List.take (i*r.sz+f) r.es.flatten=r.es.flatten.take (i*r.sz)++((r.es.flatten.drop (i*r.sz)).take r.sz).take f:=by
               rw[List.take_take,Nat.min_eq_left (by omega),List.take_add]
             have a2:r.es.flatten.drop (i*r.sz+f+l.length)=((r.es.flatten.drop (i*r.sz)).take r.sz).drop (f+cs.length)++r.es.flatten.drop (i*r.sz+r.sz):=by
               rw[List.drop_take,List.drop_drop,<-ad,<-Nat.add_assoc];have:List.drop (i*r.sz+r.sz) r.es.flatten=(List.drop (i*r.sz+f+l.length) r.es.flatten).drop (r.sz-(f+l.length)):=by
                 rw[List.drop_drop];congr 1;omega
               rw[this,List.take_append_drop]
             rw[a1,a2];simp only[List.append_assoc]
           rw[e1];rw[e2];exact cT _ _ _ _ (cT _ _ _ _ (pD _ _ _ hx) hy) (tD _ _ _ hx)
         . intro u hu
           rw[e2]at hu;simp only[List.mem_append]at hu;rcases hu with(hu|hu)|hu
           . exact ac u (List.mem_of_mem_take hu)
           . exact h1 u hu
           . exact ac u (List.mem_of_mem_drop hu)
     . rw[aD _ _ _ _ e]at E
       exact(M.rows j r' E).keep S.le_refl F fun g' J=>O g' (fun e'=>M.disj j k r' r E hk e g' J (by rw[I,e'];rfl))
   . intro j r' E g' J
     by_cases e:j=k
     . subst e;exact M.free j r hk g' J
     . rw[aD _ _ _ _ e]at E;exact M.free j r' E g' J
   . intro j j' r1 r2 E ak aj g' J al
     have p:∀j r',aI H k (some { r with es:=r.es.set i (mX (r.es.getD i []) f cs) }) j=some r'->∃av,H j=some av:=fun j r' E=>by
       by_cases e:j=k
       . subst e;exact⟨r,hk⟩
       . rw[aD _ _ _ _ e]at E;exact⟨_,E⟩
     obtain⟨q1,an⟩:=p j r1 E;obtain⟨q2,aw⟩:=p j' r2 ak;exact M.disj j j' q1 q2 an aw aj g' J al
 . refine⟨S.le_refl,fun _ h=>h,rfl,rfl,rfl,by simp,fun j E=>setRow_other w g j _ (fun e=>M.free k r hk g (by rw[I];rfl) (e▸E)),fun _ h=>.inl h⟩
end
end Go.Aw
end
section
namespace Go.Aw
open Go.RowKit
section
variable{P:Program}{S S':Sg}{w w':World}{H H':aG}
def vX(S:Sg)(w:World)(u:Value)(news:List (List AV)):Prop:=
 ∃ad c l,u=.slice ad news.length c/\bF S w news.flatten l/\(∀x∈l,x.oneCell'=true) /\
   (news=[]\/∃b o,ad=some ⟨b,o,none⟩/\∀j x,l[j]?=some x->w.cell? ⟨b,o+j,none⟩=some x)
theorem H5{es:List (List AV)}{u:Value}(h:rep S w (.sl es) u):vX S w u es:=by
 simp only[rep]at h;obtain⟨F,n,c,rfl,rfl,_,_,O⟩:=h;rcases O with rfl|⟨b,o,sz,rfl,hb,Z,E⟩
 . exact⟨F,c,[],rfl,by simp[bF],by simp,.inl rfl⟩
 . obtain⟨l,T,I,M,J⟩:=kL _ _ (tX es o E)
   exact⟨_,c,l,rfl,I,M,.inr ⟨b,o,rfl,J⟩⟩
theorem Ib{k:Nat}{r:Row}(h:RowOK S w k r){O:Option Addr}{n0 T:Nat}(Z:S.loc k=.slice O n0 T):vX S w (S.loc k) r.es:=by
 obtain⟨xs,F,I,h1⟩:=h.sl Z;rcases F.2 with⟨u,E⟩|⟨g,cap,cur,u,_⟩
 . have M:=List.eq_nil_of_length_eq_zero E
   have hx:xs=[]:=List.eq_nil_of_length_eq_zero (by rw[F.1,E];simp);exact⟨none,0,xs,by rw[u,E],I,h1,.inl M⟩
 . refine⟨some ⟨g,0,none⟩,cap,xs,u,I,h1,.inr ⟨g,0,rfl,fun j x J=>?_⟩⟩
   have:=F.cells (g:=g) (by rw[u];rfl) j x J
   rwa [Addr.add_lit]at this
theorem BR{k a b:Nat}{r:Row}{u:Value}(hk:RowOK S w k r)(hu:rep S w (.oz k a b) u):vX S w u ((r.es.take b).drop a)/\b<=r.es.length/\a<=b:=by
 simp only[rep]at hu;obtain⟨_,ad,n,c,aa,cc,E,rfl,ab,I,Z,_⟩:=hu;obtain⟨xs,ho,hr,h1⟩:=hk.sl E;have hn:n=r.es.length:=by
   rcases ho.2 with⟨J,hn⟩|⟨g,cap,cur,J,_⟩
   . rw[E]at J;injection J with _ h2 _;omega
   . rw[E]at J;injection J
 subst hn;refine⟨?_,I,ab⟩;have F:((r.es.take b).drop a).length=b-a:=by simp;omega
 rcases Nat.lt_or_ge a b with ac|af
 . obtain⟨g,rfl,rfl⟩:=Z ac
   have ae:r.es≠[]:=fun e=>by rw[e]at I;simp at I;omega
   obtain⟨g',n',c',M,O,_⟩:=hk.els E ae;rw[E]at M;injection M with T _ _;injection T with T;injection T with T;subst T;have h2:=zX _ 0 a (tJ r.es 0 b O);rw[Nat.zero_add,hk.sz]at h2;obtain⟨l,q1,q2,q3,q4⟩:=kL _ _ (tX _ _ h2);exact⟨_,cc,l,by rw[F],q2,q3,.inr ⟨g,a*S.sz k,rfl,q4⟩⟩
 . have he:(r.es.take b).drop a=[]:=List.eq_nil_of_length_eq_zero (by omega)
   exact⟨aa,cc,[],by rw[F],by rw[he];simp[bF],by simp,.inl he⟩
theorem tH:∀(es:List (List AV)) (a:Nat) {sz:Nat},(∀c∈es,c.length=sz)->(es.take a).flatten=es.flatten.take (a*sz)
 | [],_,_,_=>by simp
 | x::r,0,_,_=>by simp
 | x::r,a+1,sz,hl=>by
   have u:=hl x (by simp);rw[List.take_succ_cons,List.flatten_cons,List.flatten_cons,tH r a (fun c E=>hl c (by simp[E])),Nat.add_mul,Nat.one_mul,List.take_append,u];rw[List.take_of_length_le (l:=x) (by omega)]
   congr 2
   omega
theorem A7:∀(es:List (List AV)) (a:Nat) {sz:Nat},(∀c∈es,c.length=sz)->(es.drop a).flatten=es.flatten.drop (a*sz)
 | [],_,_,_=>by simp
 | x::r,0,_,_=>by simp
 | x::r,a+1,sz,hl=>by
   have u:=hl x (by simp);rw[List.drop_succ_cons,List.flatten_cons,A7 r a (fun c E=>hl c (by simp[E])),Nat.add_mul,Nat.one_mul,List.drop_append,u];rw[List.drop_eq_nil_of_le (as:=x) (by omega),List.nil_append]
   congr 1
   omega
theorem St.storeE(M:St S w H){k:Nat}{r:Row}(hk:H k=some r){a:Nat}{news:List (List AV)}{l:List Value}(ab:∀c∈news,c.length=r.sz)(ha:a+news.length<=r.es.length)(ae:r.es≠[]){ap:Option Addr}{n0 c0:Nat}(ak:S.loc k=.slice ap n0 c0)
   (hr:bF S w news.flatten l) (h1:∀u∈l,u.oneCell'=true):
   ∃g n c w',S.loc k=.slice (some ⟨g,0,none⟩) n c/\(∀P:Program,(storeCells ⟨g,a*r.sz,none⟩ l).run P w=.ok () w') /\
     St S w' (aI H k (some { r with es:=r.es.take a++news++r.es.drop (a+news.length) }))/\Grow S w S w':=by
 have hR:=M.rows k r hk;obtain⟨g,cap,cur,I,hg,ad,am,av,ah,aa⟩:=hR.open ak ae;have ac:l.length=news.length*r.sz:=by rw[fV _ _ hr,mH news ab]
 have ag:(a+news.length)*r.sz<=r.es.length*r.sz:=Nat.mul_le_mul_right _ ha;have ar:r.es.length*r.sz<=cap*r.sz:=Nat.mul_le_mul_right _ ad;rw[Nat.add_mul]at ag;have af:∀P:Program,_:=fun P=>run_storeCells_at (P:=P) g (a*r.sz) r.e l 0 cur w hg (by rw[ac,av];omega) h1
 simp only[Nat.add_zero]at af;refine⟨g,_,cap,_,I,af,?_,?_⟩
 . have O:∀j,j≠g->(w.setRow g (List.take (a*r.sz) cur.toList++l++List.drop (a*r.sz+l.length) cur.toList).toArray).heap[j]?=w.heap[j]?:=fun j E=>setRow_other w g j _ E
   have au:¬S.fz g:=M.free k r hk g (by rw[I];rfl);have F:eL S w (w.setRow g (List.take (a*r.sz) cur.toList++l++List.drop (a*r.sz+l.length) cur.toList).toArray):=fun j E=>O j (fun e=>au (e▸M.ro_fz j E))
   have T:(r.es.take a++news++r.es.drop (a+news.length)).length=r.es.length:=by simp;omega
   have e2 : List.take (r.es.length * r.sz) (List.take (a * r.sz) cur.toList ++ l ++ List.drop (a * r.sz + l.length) cur.toList) =
       (cur.toList.take (r.es.length*r.sz)).take (a*r.sz)++l++(cur.toList.take (r.es.length*r.sz)).drop (a*r.sz+l.length):=by
     rw[List.take_take,Nat.min_eq_left (by omega),List.drop_take];rw[List.take_append,List.take_append];simp only[List.length_append,List.length_take,Array.length_toList];rw[Nat.min_eq_left (by omega:a*r.sz<=cur.size)];rw[List.take_of_length_le (l:=List.take (a*r.sz) cur.toList) (by simp;omega),List.take_of_length_le (l:=l) (by omega)]
   refine⟨M.ro_fz,fun j E=>by simpa using M.fz_lt j E,?_,?_,?_,M.tabs.keep S.le_refl F⟩
   . intro j r' E
     by_cases e:j=k
     . subst e
       rw[gB]at E;injection E with E;subst E;refine⟨hR.lt,hR.sz,hR.pos,?_,.inl ?_⟩
       . intro c Z
         rcases List.mem_append.1 Z with Z|Z
         . rcases List.mem_append.1 Z with Z|Z
           . exact hR.len c (List.mem_of_mem_take Z)
           . exact ab c Z
         . exact hR.len c (List.mem_of_mem_drop Z)
       . refine⟨(List.take (a*r.sz) cur.toList++l++List.drop (a*r.sz+l.length) cur.toList).take (r.es.length*r.sz),⟨?_,.inr ⟨g,cap,_,by rw[T];exact I,Nat.zero_le _,setRow_heap w g cur _ _ _ hg,by rw[T];exact ad,am,?_,by rw[T]⟩⟩,?_,?_⟩
         . rw[T]
           simp only[List.length_take,List.length_append,List.length_drop,Array.length_toList];omega
         . simp only[List.size_toArray,List.length_append,List.length_take,List.length_drop,Array.length_toList]
           omega
         . have hx:=(dD (S.le_refl) F _ _ ah)
           have hy:=(dD (S.le_refl) F _ _ hr);have e1:(r.es.take a++news++r.es.drop (a+news.length)).flatten=r.es.flatten.take (a*r.sz)++news.flatten++r.es.flatten.drop (a*r.sz+l.length):=by
             rw[List.flatten_append,List.flatten_append,tH _ _ hR.len,A7 _ _ hR.len,Nat.add_mul,ac]
           rw[e1,e2];exact cT _ _ _ _ (cT _ _ _ _ (pD _ _ _ hx) hy) (tD _ _ _ hx)
         . intro u hu
           rw[e2]at hu;simp only[List.mem_append]at hu;rcases hu with(hu|hu)|hu
           . exact aa u (List.mem_of_mem_take hu)
           . exact h1 u hu
           . exact aa u (List.mem_of_mem_drop hu)
     . rw[aD _ _ _ _ e]at E
       exact(M.rows j r' E).keep S.le_refl F fun g' J=>O g' (fun e'=>M.disj j k r' r E hk e g' J (by rw[I,e'];rfl))
   . intro j r' E g' J
     by_cases e:j=k
     . subst e;exact M.free j r hk g' J
     . rw[aD _ _ _ _ e]at E;exact M.free j r' E g' J
   . intro j j' r1 r2 E aj ai g' J al
     have p:∀j r',aI H k (some { r with es:=r.es.take a++news++r.es.drop (a+news.length) }) j=some r'->∃an,H j=some an:=fun j r' E=>by
       by_cases e:j=k
       . subst e;exact⟨r,hk⟩
       . rw[aD _ _ _ _ e]at E;exact⟨_,E⟩
     obtain⟨q1,aq⟩:=p j r1 E;obtain⟨q2,ao⟩:=p j' r2 aj;exact M.disj j j' q1 q2 aq ao ai g' J al
 . refine⟨S.le_refl,fun _ h=>h,rfl,rfl,rfl,by simp,fun j E=>setRow_other w g j _ (fun e=>M.free k r hk g (by rw[I];rfl) (e▸E)),fun _ h=>.inl h⟩
theorem Pq{k:Nat}{r:Row}(u:H k=some r):aI H k (some r)=H:=by
 funext j;by_cases e:j=k
 . subst e;rw[aA,u]
 . rw[aD _ _ _ _ e]
theorem St.copy(hS:St S w H){k:Nat}{r:Row}(hk:H k=some r){t e sz O:Nat}{t' ty:TypeId}(he:bR P t=some (e,sz,O))(ah:r.sz=sz){a n:Nat}(Z:a+n<=r.es.length){x u:Value}{news:List (List AV)}(hu:vX S w u news)(af:cP sz news)
   (hx:∃ad cc,x=.slice ad n cc/\(0<n->∃g n' c',S.loc k=.slice (some ⟨g,0,none⟩) n' c'/\ad=some ⟨g,a*r.sz,none⟩)):
   ∃w',(Builtin.copy_ #[t,t'] ty #[x,u]).run P w=.ok (goInt (min news.length n:Nat)) w'/\St S w' (aI H k (some { r with es:=r.es.take a++news.take (min news.length n)++r.es.drop (a+min news.length n) }))/\Grow S w S w':=by
 obtain⟨av,z,ac,hi,aa,aw,au,an,hz,ax⟩:=gR he;obtain⟨ad,cc,rfl,al⟩:=hx;obtain⟨sa,sc,l,rfl,hl,aj,I⟩:=hu;have E:=gP.1 af;rcases Nat.eq_zero_or_pos (min news.length n)with h0|h0
 . refine⟨w,?_,?_,Grow.refl S w⟩
   . have ap:Nat.min news.length n=0:=h0
     have ai:∀a:Addr,(loadCells a 0).run P w=.ok #[] w:=fun a=>by simpa using run_loadCells_list (P:=P) w a [] (by simp)
     rw[h0];cases ad <;> cases sa <;> simp[Builtin.copy_,run_underlying ac,Builtin.lenOf,Builtin.firstCells,sizeOf,typeInfo,hi,ap,ai,storeCells]
   . rw[h0]
     have:({ r with es:=r.es.take a++news.take 0++r.es.drop (a+0) }:Row)=r:=by simp
     rw[this,Pq hk];exact hS
 . have ar:0<n:=by omega
   obtain⟨g,n',c',M,rfl⟩:=al ar;have ab:r.es≠[]:=fun e=>by rw[e]at Z;simp at Z;omega
   have hm:(news.take (min news.length n)).length=min news.length n:=by simp
   have ao:(news.take (min news.length n)).flatten=news.flatten.take (min news.length n*sz):=tH _ _ E;have aq:bF S w (news.take (min news.length n)).flatten (l.take (min news.length n*sz)):=by rw[ao];exact pD _ _ _ hl
   obtain⟨g',n2,c2,w',F,ak,q1,q2⟩:=hS.storeE hk (a:=a) (news:=news.take (min news.length n)) (l:=l.take (min news.length n*sz)) (fun c hc=>by rw[ah];exact E c (List.mem_of_mem_take hc)) (by rw[hm];omega) ab M aq (fun u hu=>aj u (List.mem_of_mem_take hu));rw[M]at F;injection F with i1 _ _;injection i1 with i1;injection i1 with i1;subst i1;rw[hm]at q1;refine⟨w',?_,q1,q2⟩;rcases I with I|⟨b,o,rfl,J⟩
   . rw[I]at h0;simp at h0
   . have ag:l.length=news.length*sz:=by rw[fV _ _ hl,mH news E]
     have am:(l.take (min news.length n*sz)).length=min news.length n*sz:=by
       rw[List.length_take,ag];exact Nat.min_eq_left (Nat.mul_le_mul_right _ (Nat.min_le_left _ _))
     have T:=run_loadCells_list (P:=P) w ⟨b,o,none⟩ (l.take (min news.length n*sz)) (fun j v hj=>by
       rw[Addr.add_lit];refine J j v ?_;rw[List.getElem?_take]at hj;split at hj
       . exact hj
       . simp at hj)
     rw[am]at T;have ae:Nat.min news.length n=min news.length n:=rfl;simp[Builtin.copy_,run_underlying ac,Builtin.lenOf,Builtin.firstCells,sizeOf,typeInfo,hi,aa,ae,T,ak P]
theorem wK(z:Array Value)(u:0<z.size):∀m,(Builtin.zeroCells z m).toList=(List.replicate m z.toList).flatten
 | 0=>by simp[Builtin.zeroCells]
 | m+1=>by
   have ih:=wK z u m;rw[show List.replicate (m+1) z.toList=List.replicate m z.toList++[z.toList]from List.replicate_succ',List.flatten_append,<-ih];simp only[Builtin.zeroCells,Array.toList_map,Array.toList_range,Nat.add_mul,Nat.one_mul,List.flatten_cons,List.flatten_nil,List.append_nil];rw[List.range_add,List.map_append]
   congr 1
   apply List.ext_getElem
   . simp
   . intro i h1 E
     simp only[List.length_map,List.length_range]at h1;simp[Nat.add_comm (m*z.size),Nat.add_mul_mod_self_right,Nat.mod_eq_of_lt h1,h1]
theorem St.clear(hS:St S w H){k:Nat}{r:Row}(hk:H k=some r){t e sz M:Nat}{ty:TypeId}{zs:List AV}(he:bR P t=some (e,sz,M))(ac:dC P e=some zs)(al:r.sz=sz){a n:Nat}(Z:a+n<=r.es.length){x:Value}
   (hx:∃ad cc,x=.slice ad n cc/\(0<n->∃g n' c',S.loc k=.slice (some ⟨g,0,none⟩) n' c'/\ad=some ⟨g,a*r.sz,none⟩)):
   ∃w',(Builtin.clear_ #[t] ty #[x]).run P w=.ok (.tuple #[]) w'/\St S w' (aI H k (some { r with es:=r.es.take a++List.replicate n zs++r.es.drop (a+n) }))/\Grow S w S w':=by
 obtain⟨an,z,aa,hi,ah,ak,ai,ag,hz,aj⟩:=gR he;obtain⟨i',v,I,F,rfl,ao,am,h1⟩:=lK ac;rw[hi]at I;injection I with I;subst I;rw[hz]at F;injection F with F;subst F;obtain⟨ad,cc,rfl,af⟩:=hx;rcases Nat.eq_zero_or_pos n with h0|h0
 . subst h0
   refine⟨w,?_,?_,Grow.refl S w⟩
   . cases ad <;> simp[Builtin.clear_,run_underlying aa]
   . have:({ r with es:=r.es.take a++List.replicate 0 (z.cells.toList.map nY)++r.es.drop (a+0) }:Row)=r:=by simp
     rw[this,Pq hk];exact hS
 . obtain⟨g,n',c',J,rfl⟩:=af h0
   have T:r.es≠[]:=fun e=>by rw[e]at Z;simp at Z;omega
   have ab:∀m,bF S w (List.replicate m (z.cells.toList.map nY)).flatten (List.replicate m z.cells.toList).flatten:=by
     intro m;induction m with
     | zero=>simp[bF]
     | succ m ih=>simp only[List.replicate_succ,List.flatten_cons];exact cT _ _ _ _ (kM _) ih
   obtain⟨g',n2,c2,w',E,ae,q1,q2⟩:=hS.storeE hk (a:=a) (news:=List.replicate n (z.cells.toList.map nY)) (l:=(List.replicate n z.cells.toList).flatten) (fun c hc=>by rw[List.eq_of_mem_replicate hc];simp;omega) (by rw[List.length_replicate];omega) T J (ab n) (fun u hu=>by
     obtain⟨l,hl,hu⟩:=List.mem_flatten.1 hu;rw[List.eq_of_mem_replicate hl]at hu;exact h1 u hu)
   rw[J]at E;injection E with O _ _;injection O with O;injection O with O;subst O;rw[List.length_replicate]at q1;refine⟨w',?_,q1,q2⟩;obtain⟨m,rfl⟩:∃m,n=m+1:=⟨n-1,by omega⟩;simp[Builtin.clear_,run_underlying aa,zeroValue,typeInfo,hi,hz,wK z.cells (by omega) (m+1),ae P]
theorem BJ{t ty e:TypeId}{i:TypeInfo}{size n c:Nat}{v:Value}{xs:List Value}(F:P.underlying t=some (.slice e))(I:P.info? e=some i)(u:w.ownsRow 0 e size v n xs):
   (Builtin.append_ #[t,t] ty #[v,.slice none 0 c]).run P w=.ok v w:=by
 rcases u.2 with⟨rfl,rfl⟩|⟨g,cap,cur,rfl,_,_,E,_⟩
 . simp[Builtin.append_,run_underlying F,sizeOf,typeInfo,I,Builtin.lenOf,Builtin.firstCells]
 . simp[Builtin.append_,run_underlying F,sizeOf,typeInfo,I,Builtin.lenOf,Builtin.firstCells,E,storeCells]
theorem St.append(T:St S w H){k:Nat}{r:Row}(hk:H k=some r){a8:Option Addr}{n0 c0:Nat}(ar:S.loc k=.slice a8 n0 c0){t ty:TypeId}{ab:Nat}(he:bR P t=some (r.e,r.sz,ab)){news:List (List AV)}{u:Value}(hu:vX S w u news)
   (ax:cP r.sz news) (hb:(r.es.length+news.length)*ab<=140737488355328):
   ∃I w',(Builtin.append_ #[t,t] ty #[S.loc k,u]).run P w=.ok I w'/\(∃a n c,I=.slice a n c) /\
     St (S.addRow I r.sz) w' (aI (aI H k none) S.N (some ⟨r.e,r.sz,r.es++news⟩))/\Grow S w (S.addRow I r.sz) w':=by
 have hR:=T.rows k r hk;obtain⟨a5,z,au,hi,ay,a6,al,an,hz,a7⟩:=gR he;obtain⟨xs,ho,hr,h1⟩:=hR.sl ar;obtain⟨ad,c,l,rfl,hl,ap,ak⟩:=hu;have af:=gP.1 ax;have am:l.length=news.length*r.sz:=by rw[fV _ _ hl,mH news af]
 have a9:r.es.length+news.length<=140737488355328:=Nat.le_trans (Nat.le_mul_of_pos_right _ an) hb;have a4 : ∃ I w', (Builtin.append_ #[t, t] ty #[S.loc k, .slice ad news.length c]).run P w = .ok I w' /\ w'.ownsRow 0 r.e r.sz I (r.es.length + news.length) (xs ++ l) /\ w.grownBy w' (blk (S.loc k)) /\
     (blk I=blk (S.loc k)\/blk I=some w.heap.size):=by
   cases ad with
   | none=>
     have hn:news=[]:=by
       rcases ak with h|⟨b,o,h,_⟩
       . exact h
       . simp at h
     subst hn;have ao:l=[]:=List.eq_nil_of_length_eq_zero (by rw[am];simp);subst ao;exact⟨S.loc k,w,BJ au hi ho,by simpa using ho,World.grownBy.refl w _,.inl rfl⟩
   | some a=>
     have aj:∀j x,l[j]?=some x->w.cell? (a.add j)=some x:=by
       rcases ak with h|⟨b,o,h,hc⟩
       . subst h
         have ao:l=[]:=List.eq_nil_of_length_eq_zero (by rw[am];simp);subst ao;simp
       . injection h with h
         subst h;intro j x F;rw[Addr.add_lit];exact hc j x F
     obtain⟨I,w',q1,q2,q3,_,q5⟩:=run_append_own_at (P:=P) w 0 t ty r.e a5 z r.sz ab au hi hz ay a6 a7 al (S.loc k) r.es.length xs ho a news.length c l am aj ap
       (by simp only[maxLen];omega) hb (Nat.zero_le _)
     have av:blk (S.loc k)=(S.loc k).ownBlock:=by rw[ar];exact aeA _ _ _
     have az:blk I=I.ownBlock:=by
       rcases q2.2 with⟨h,_⟩|⟨_,_,_,h,_⟩ <;> (rw[h];rfl)
     exact⟨I,w',q1,q2,by rw[av];exact q3,by rw[av,az];exact q5⟩
 obtain⟨I,w',q1,q2,q3,q4⟩:=a4;have ai:=T.free k r hk;have ag:∀j,S.fz j->w'.heap[j]?=w.heap[j]?:=fun j F=>q3.block j (T.fz_lt j F) (fun e=>ai j e.symm F)
 have M:eL S w w':=T.kept ag;have O:=S.le_addRow I r.sz;have J:(S.addRow I r.sz).loc S.N=I:=by simp[Sg.addRow]
 have a0:∀g,blk I=some g->¬S.fz g:=fun g E hf=>by
   rcases q4 with e|e
   . exact ai g (e▸E) hf
   . rw[e]at E;injection E with E;subst E;exact Nat.lt_irrefl _ (T.fz_lt _ hf)
 have Z:∀j r',j≠S.N->aI (aI H k none) S.N (some ⟨r.e,r.sz,r.es++news⟩) j=some r'->j≠k/\H j=some r':=fun j r' F h=>by
   rw[aD _ _ _ _ F]at h;by_cases e:j=k
   . subst e;rw[aA]at h;simp at h
   . rw[aD _ _ _ _ e]at h;exact⟨e,h⟩
 have ae:∀j r',j≠k->H j=some r'->∀g,blk (S.loc j)=some g->some g≠blk (S.loc k)/\g<w.heap.size:=fun j r' F aa g E=>
   ⟨fun e=>T.disj j k r' r aa hk F g E e.symm,(T.rows j r' aa).block_lt E⟩
 have aq:∀j r',j≠k->H j=some r'->∀g,blk (S.loc j)=some g->blk I≠some g:=fun j r' F aa g E e=>by
   obtain⟨e1,e2⟩:=ae j r' F aa g E;rcases q4 with e'|e'
   . exact e1 (by rw[<-e',e])
   . rw[e']at e;injection e with e;omega
 refine⟨I,w',q1,?_,⟨T.ro_fz,fun j F=>Nat.lt_of_lt_of_le (T.fz_lt j F) q3.size,?_,?_,?_,T.tabs.keep O M⟩,⟨O,fun _ h=>h,q3.os,q3.tape,q3.output,q3.size,ag,fun _ h=>.inl h⟩⟩
 . rcases q2.2 with⟨h,_⟩|⟨g,cap,cur,h,_⟩
   . exact⟨_,_,_,h⟩
   . exact⟨_,_,_,h⟩
 . intro j r' F
   by_cases e:j=S.N
   . subst e
     rw[aA]at F;injection F with F;subst F;refine⟨Nat.lt_succ_self _,by simp[Sg.addRow],al,?_,.inl ⟨xs++l,?_,?_,?_⟩⟩
     . intro cs ah
       rcases List.mem_append.1 ah with ah|ah
       . exact hR.len cs ah
       . exact af cs ah
     . rw[J,List.length_append];exact q2
     . rw[List.flatten_append]
       exact cT _ _ _ _ (dD O M _ _ hr) (dD O M _ _ hl)
     . intro x hx
       rcases List.mem_append.1 hx with hx|hx
       . exact h1 x hx
       . exact ap x hx
   . obtain⟨e1,e2⟩:=Z j r' e F
     exact(T.rows j r' e2).keep O M fun g E=>q3.block g (ae j r' e1 e2 g E).2 (ae j r' e1 e2 g E).1
 . intro j r' F g E
   by_cases e:j=S.N
   . subst e;rw[J]at E;exact a0 g E
   . obtain⟨e1,e2⟩:=Z j r' e F
     rw[O.loc j (T.rows j r' e2).lt]at E;exact T.free j r' e2 g E
 . intro j j' r1 r2 F aa aw g E ac
   by_cases e:j=S.N
   . subst e
     rw[J]at E;obtain⟨e1,e2⟩:=Z j' r2 (Ne.symm aw) aa;rw[O.loc j' (T.rows j' r2 e2).lt]at ac;exact aq j' r2 e1 e2 g ac E
   . obtain⟨e1,e2⟩:=Z j r1 e F
     rw[O.loc j (T.rows j r1 e2).lt]at E;by_cases e':j'=S.N
     . subst e'
       rw[J]at ac;exact aq j r1 e1 e2 g E ac
     . obtain⟨e3,e4⟩:=Z j' r2 e' aa
       rw[O.loc j' (T.rows j' r2 e4).lt]at ac;exact T.disj j j' r1 r2 e2 e4 aw g E ac
theorem If{es:List (List AV)}{F:Option Addr}{n:Nat}(h:rep S w (.cl es) (.slice F n n)){sz:Nat}(T:cP sz es):
   ∃l,l.length=es.length*sz/\bF S w es.flatten l/\(∀x∈l,x.oneCell'=true)/\n=es.length/\n<=maxLen/\(es=[]\/∃b o,F=some ⟨b,o,none⟩/\∀j x,l[j]?=some x->w.cell? ⟨b,o+j,none⟩=some x):=by
 simp only[rep]at h;obtain⟨aa,n',e,rfl,M,h4⟩:=h;injection e with I E J;subst I E;rcases h4 with rfl|⟨b,o,O,rfl,hb,hs,u⟩
 . exact⟨[],by simp,by simp[bF],by simp,rfl,M,.inl rfl⟩
 . obtain⟨l,I,E,J,Z⟩:=kL _ _ (tX es o u)
   refine⟨l,?_,E,J,rfl,M,.inr ⟨b,o,rfl,Z⟩⟩;rw[fV _ _ E,mH es (gP.1 T)]
theorem St.appendNew(T:St S w H){es:List (List AV)}{us:Value}(a9:rep S w (.cl es) us){t ty e:TypeId}{sz I:Nat}(he:bR P t=some (e,sz,I)){news:List (List AV)}{u:Value}(hu:vX S w u news)(a7:news≠[])
   (az:cP sz es) (a8:cP sz news) (hb:(es.length+news.length)*I<=140737488355328):
   ∃v' w',(Builtin.append_ #[t,t] ty #[us,u]).run P w=.ok v' w'/\(∃a n c,v'=.slice a n c) /\
     St (S.addRow v' sz) w' (aI H S.N (some ⟨e,sz,es++news⟩))/\Grow S w (S.addRow v' sz) w':=by
 obtain⟨au,z,a5,hi,ap,aw,ai,ao,hz,ax⟩:=gR he;have ak:=a9;simp only[rep]at ak;obtain⟨a4,n0,rfl,_⟩:=ak;obtain⟨l0,aj,bc,bd,rfl,be,ar⟩:=If a9 az;obtain⟨ad,c,l,rfl,hl,aq,av⟩:=hu;have ah:=gP.1 a8;have ay:=gP.1 az;have am:l.length=news.length*sz:=by rw[fV _ _ hl,mH news ah]
 have bg:0<news.length:=List.length_pos_iff.2 a7;have bf:es.length+news.length<=140737488355328:=Nat.le_trans (Nat.le_mul_of_pos_right _ ao) hb;obtain⟨b,o,rfl,hcell⟩:∃b o,ad=some ⟨b,o,none⟩/\∀j x,l[j]?=some x->w.cell? ⟨b,o+j,none⟩=some x:=by
   rcases av with h|h
   . exact absurd h a7
   . exact h
 have af:∀j x,l[j]?=some x->w.cell? ((⟨b,o,none⟩:Addr).add j)=some x:=fun j x hj=>by rw[Addr.add_lit];exact hcell j x hj
 have ba:∃v' w',(Builtin.append_ #[t,t] ty #[.slice a4 es.length es.length,.slice (some ⟨b,o,none⟩) news.length c]).run P w=.ok v' w'/\w'.ownsRow w.heap.size e sz v' (es.length+news.length) (l0++l)/\w.grownBy w' none:=by
   cases a4 with
   | none=>
     have bb:es=[]:=by
       rcases ar with h|⟨_,_,h,_⟩
       . exact h
       . cases h
     subst bb;obtain rfl:l0=[]:=List.eq_nil_of_length_eq_zero (by simpa using aj);obtain⟨v',w',q1,q2,q3,_⟩:=run_append_own (P:=P) w w.heap.size t ty e au z sz I a5 hi hz ap aw ax ai (.slice none 0 0) 0 [] (World.ownsRow_nil w _ e sz) ⟨b,o,none⟩ news.length c l am af aq (by simp only[maxLen];omega) hb (Nat.le_refl _);exact⟨v',w',q1,q2,q3⟩
   | some a0=>
     have an:∀j x,l0[j]?=some x->w.cell? (a0.add j)=some x:=by
       rcases ar with h|⟨b0,o0,h,hc⟩
       . subst h
         obtain rfl:l0=[]:=List.eq_nil_of_length_eq_zero (by simpa using aj);simp
       . injection h with h
         subst h;intro j x hj;rw[Addr.add_lit];exact hc j x hj
     exact run_append_arg_grows (P:=P) w t ty e au z sz I a5 hi hz ap aw ax ai a0 es.length es.length l0 aj an ⟨b,o,none⟩ news.length c l am af (by omega) (by simp only[maxLen];omega) hb
 obtain⟨v',w',q1,q2,q3⟩:=ba;obtain⟨g,cap,cur,hv,hg0,hg,hnc,hcm,ae,htk⟩:∃g cap cur,v'=.slice (some ⟨g,0,none⟩) (es.length+news.length) cap/\w.heap.size<=g/\w'.heap[g]?=some (.cells cur e (0,0))/\es.length+news.length<=cap/\cap<=maxLen/\cur.size=cap*sz/\cur.toList.take ((es.length+news.length)*sz)=l0++l:=by
   rcases q2.2 with⟨_,h⟩|⟨g,cap,cur,h1,h2,h3,h4,h5,h6,h7⟩
   . omega
   . exact⟨g,cap,cur,h1,h2,h3,h4,h5,h6,h7⟩
 subst hv;have ac:∀k,k<w.heap.size->w'.heap[k]?=w.heap[k]?:=fun k M=>q3.block k M (by simp)
 have J:eL S w w':=fun k M=>ac k (T.fz_lt k (T.ro_fz k M))
 have O:=S.le_addRow (.slice (some ⟨g,0,none⟩) (es.length+news.length) cap) sz;have F:(S.addRow (.slice (some ⟨g,0,none⟩) (es.length+news.length) cap) sz).loc S.N=.slice (some ⟨g,0,none⟩) (es.length+news.length) cap:=by simp[Sg.addRow]
 have Z:∀k r,k≠S.N->aI H S.N (some ⟨e,sz,es++news⟩) k=some r->H k=some r:=fun k r M h=>by rwa [aD _ _ _ _ M]at h
 refine⟨_,w',q1,⟨_,_,_,rfl⟩,⟨T.ro_fz,fun k M=>Nat.lt_of_lt_of_le (T.fz_lt k M) q3.size,?_,?_,?_,T.tabs.keep O J⟩,⟨O,fun _ h=>h,q3.os,q3.tape,q3.output,q3.size,fun k M=>ac k (T.fz_lt k M),fun _ h=>.inl h⟩⟩
 . intro k r M
   by_cases e0:k=S.N
   . subst e0
     rw[aA]at M;injection M with M;subst M;refine⟨Nat.lt_succ_self _,by simp[Sg.addRow],ai,?_,.inl ⟨l0++l,?_,?_,?_⟩⟩
     . intro cs ae
       rcases List.mem_append.1 ae with ae|ae
       . exact ay cs ae
       . exact ah cs ae
     . rw[F,List.length_append]
       exact⟨by rw[List.length_append,aj,am,Nat.add_mul],.inr ⟨g,cap,cur,rfl,Nat.zero_le _,hg,hnc,hcm,ae,htk⟩⟩
     . rw[List.flatten_append]
       exact cT _ _ _ _ (dD O J _ _ bc) (dD O J _ _ hl)
     . intro x hx
       rcases List.mem_append.1 hx with hx|hx
       . exact bd x hx
       . exact aq x hx
   . have aa:=Z k r e0 M
     exact(T.rows k r aa).keep O J fun g' E=>ac g' ((T.rows k r aa).block_lt E)
 . intro k r M g' E
   by_cases e0:k=S.N
   . subst e0
     rw[F]at E;simp only[blk,Option.some.injEq]at E;subst E;exact fun h=>by have:=T.fz_lt _ h;omega
   . have aa:=Z k r e0 M
     rw[O.loc k (T.rows k r aa).lt]at E;exact T.free k r aa g' E
 . intro k k' r r' M aa al g' E ab
   by_cases e0:k=S.N
   . subst e0
     rw[F]at E;simp only[blk,Option.some.injEq]at E;subst E;have ag:=Z k' r' (Ne.symm al) aa;rw[O.loc k' (T.rows k' r' ag).lt]at ab;have:=(T.rows k' r' ag).block_lt ab;omega
   . have ag:=Z k r e0 M
     rw[O.loc k (T.rows k r ag).lt]at E;by_cases e1:k'=S.N
     . subst e1
       rw[F]at ab;simp only[blk,Option.some.injEq]at ab;subst ab;have:=(T.rows k r ag).block_lt E;omega
     . have a6:=Z k' r' e1 aa
       rw[O.loc k' (T.rows k' r' a6).lt]at ab;exact T.disj k k' r r' ag a6 al g' E ab
end
end Go.Aw
end
section
namespace Go.Aw
open Go.RowKit
mutual
inductive Conv (H:aG):AV->AV->Prop
 | refl (x:AV):Conv H x x
 | any (x:AV):Conv H x .any
 | row (k:Nat) (r:Row) (es:List (List AV)):H k=some r->ConvE H r.es es->Conv H (.os k) (.sl es)
 | sl (es es':List (List AV)):ConvE H es es'->Conv H (.sl es) (.sl es')
 | agg (cs cs':List AV):ConvL H cs cs'->Conv H (.agg cs) (.agg cs')
 | tup (cs cs':List AV):ConvL H cs cs'->Conv H (.tup cs) (.tup cs')
 | ptr (k i f:Nat) (r:Row) (cs:List AV):H k=some r->i<r.es.length->ConvL H (r.es.getD i []) cs->Conv H (.op k i f) (.rp cs f)
 | fn (f:FuncId) (cap cap':List AV):ConvL H cap cap'->Conv H (.fn f cap) (.fn f cap')
inductive ConvL (H:aG):List AV->List AV->Prop
 | nil:ConvL H [] []
 | cons (x y:AV) (r s:List AV):Conv H x y->ConvL H r s->ConvL H (x::r) (y::s)
inductive ConvE (H:aG):List (List AV)->List (List AV)->Prop
 | nil:ConvE H [] []
 | cons (x y:List AV) (r s:List (List AV)):ConvL H x y->ConvE H r s->ConvE H (x::r) (y::s)
end
theorem ConvL.refl{H:aG}:∀l,ConvL H l l
 | []=>.nil
 | x::r=>.cons x x r r (.refl x) (ConvL.refl r)
theorem ConvE.refl{H:aG}:∀l,ConvE H l l
 | []=>.nil
 | x::r=>.cons x x r r (ConvL.refl x) (ConvE.refl r)
def Sg.froze(S:Sg)(H:aG):Sg:=
 { S with ro:=fun g=>S.ro g\/∃k r,H k=some r/\blk (S.loc k)=some g,fz:=fun g=>S.fz g\/∃k r,H k=some r/\blk (S.loc k)=some g }
theorem Sg.le_froze(S:Sg)(H:aG):S.le (S.froze H):=⟨fun _ h=>.inl h,Nat.le_refl _,fun _ _=>rfl,fun _ _=>rfl⟩
section
variable{S:Sg}{w:World}{H:aG}
theorem ConvE.len:∀{es es':List (List AV)},ConvE H es es'->es'.length=es.length
 | _,_,.nil=>rfl
 | _,_,.cons _ _ _ _ _ h=>by simp[ConvE.len h]
mutual
theorem Conv.rep(J:St S w H):∀{x y:AV} {u:Value},Conv H x y->rep S w x u->Aw.rep (S.froze H) w y u
 | _,_,_,.refl x,h=>jI (S.le_froze H) (eL.refl S w) _ _ h
 | _,_,_,.any x,_=>by simp only[Aw.rep]
 | _,_,u,.row k r es hk I,h=>by
   simp only[Aw.rep]at h |-;obtain⟨_,rfl,_,_,_,M⟩:=h;have O:=J.rows k r hk;obtain⟨xs,ho,hr,h1⟩:=O.sl M;rcases ho.2 with⟨Z,hn⟩|⟨g,cap,cur,Z,_,h2,h3,T,h5⟩
   . have h0:=List.eq_nil_of_length_eq_zero hn
     refine⟨none,0,0,Z,by rw[I.len,hn],Nat.le_refl _,Nat.zero_le _,.inl ?_⟩;exact List.eq_nil_of_length_eq_zero (by rw[I.len,hn])
   . refine⟨_,_,cap,Z,I.len,h3,T,.inr ⟨g,0,r.sz,rfl,.inr ⟨k,r,hk,by rw[Z];rfl⟩,O.pos,?_⟩⟩
     refine ConvE.rep J I ?_;refine nU _ _ O.len (gV _ xs 0 hr h1 fun j u hu=>?_);have:=ho.cells (g:=g) (by rw[Z];rfl) j u hu
     rwa [Addr.add_lit]at this
 | _,_,_,.sl es es' I,h=>by
   simp only[Aw.rep]at h |-;obtain⟨ad,n,c,rfl,h1,h2,h3,T⟩:=h;refine⟨ad,n,c,rfl,by rw[I.len,h1],h2,h3,?_⟩;rcases T with T|⟨b,o,sz,rfl,hb,hs,aa⟩
   . exact .inl (List.eq_nil_of_length_eq_zero (by rw[I.len,T];rfl))
   . exact .inr ⟨b,o,sz,rfl,.inl hb,hs,ConvE.rep J I aa⟩
 | _,_,_,.agg cs cs' hc,h=>by
   simp only[Aw.rep]at h |-;obtain⟨l,rfl,h1,h2⟩:=h;exact⟨l,rfl,ConvL.rep J hc h1,h2⟩
 | _,_,_,.tup cs cs' hc,h=>by
   simp only[Aw.rep]at h |-;obtain⟨l,rfl,h1⟩:=h;exact⟨l,rfl,ConvL.rep J hc h1⟩
 | _,_,_,.ptr k i f r cs hk hi hc,h=>by
   simp only[Aw.rep]at h |-;obtain⟨_,g,n,c,E,rfl⟩:=h;have O:=J.rows k r hk;have ab:r.es≠[]:=fun e=>by rw[e]at hi;simp at hi
   obtain⟨g',n',c',F,I,_⟩:=O.els E ab;rw[E]at F;injection F with e1 e2 e3;injection e1 with e1;injection e1 with e1;subst e1;obtain⟨e4,e5⟩:=pC _ 0 i I hi;rw[Nat.zero_add,O.sz]at e5;exact⟨g,i*S.sz k,rfl,.inr ⟨k,r,hk,by rw[E];rfl⟩,(ConvL.cells J hc e5).1⟩
 | _,_,_,.fn f cap cap' hc,h=>by
   simp only[Aw.rep]at h |-;obtain⟨l,rfl,h1⟩:=h;exact⟨l,rfl,ConvL.rep J hc h1⟩
theorem ConvL.rep(E:St S w H):∀{x y:List AV} {l:List Value},ConvL H x y->bF S w x l->bF (S.froze H) w y l
 | _,_,_,.nil,h=>h
 | _,_,_,.cons x y r s hx hr,h=>by
   simp only[bF]at h |-;obtain⟨u,t,rfl,h1,F⟩:=h;exact⟨u,t,rfl,Conv.rep E hx h1,ConvL.rep E hr F⟩
theorem ConvL.cells(E:St S w H){b:Nat}:∀{x y:List AV} {o:Nat},ConvL H x y->cE S w b o x->cE (S.froze H) w b o y/\y.length=x.length
 | _,_,_,.nil,_=>⟨trivial,rfl⟩
 | _,_,o,.cons x y r s hx hr,h=>by
   simp only[cE]at h |-;obtain⟨⟨u,h1,M,F⟩,O⟩:=h;obtain⟨I,J⟩:=ConvL.cells E hr O;exact⟨⟨⟨u,h1,M,Conv.rep E hx F⟩,I⟩,by simp[J]⟩
theorem ConvE.rep(u:St S w H){b sz:Nat}:∀{x y:List (List AV)} {o:Nat},ConvE H x y->fY S w b sz o x->fY (S.froze H) w b sz o y
 | _,_,_,.nil,_=>trivial
 | _,_,o,.cons x y r s hx hr,h=>by
   simp only[fY]at h |-;obtain⟨h1,I,J⟩:=h;obtain⟨E,F⟩:=ConvL.cells u hx I;exact⟨by rw[F,h1],E,ConvE.rep u hr J⟩
end
end
mutual
def fv:AV->Option Value
 | .v x=>some x
 | .tup vs=>(fvL vs).map fun l=>.tuple l.toArray
 | .agg vs=>(fvL vs).map fun l=>.agg l.toArray
 | _=>none
def fvL:List AV->Option (List Value)
 | []=>some []
 | x::r=>match fv x,fvL r with
   | some u,some l=>some (u::l)
   | _,_=>none
end
mutual
theorem Ok{S:Sg}{w:World}:∀{x:AV} {u v:Value},fv x=some v->rep S w x u->u=v
 | .v x,u,v,h,hr=>by
   simp only[fv]at h;injection h with h;subst h;simpa only[rep]using hr
 | .tup vs,u,v,h,hr=>by
   simp only[fv]at h;cases E:fvL vs with
   | none=>simp[E]at h
   | some l=>
     simp[E]at h;subst h;simp only[rep]at hr;obtain⟨l',rfl,h1⟩:=hr;rw[IE E h1]
 | .agg vs,u,v,h,hr=>by
   simp only[fv]at h;cases E:fvL vs with
   | none=>simp[E]at h
   | some l=>
     simp[E]at h;subst h;simp only[rep]at hr;obtain⟨l',rfl,h1,_⟩:=hr;rw[IE E h1]
 | .any,_,_,h,_=>by simp[fv]at h
 | .sl _,_,_,h,_=>by simp[fv]at h
 | .rp _ _,_,_,h,_=>by simp[fv]at h
 | .os _,_,_,h,_=>by simp[fv]at h
 | .op _ _ _,_,_,h,_=>by simp[fv]at h
 | .gd _ _,_,_,h,_=>by simp[fv]at h
 | .fn _ _,_,_,h,_=>by simp[fv]at h
 | .nf _,_,_,h,_=>by simp[fv]at h
 | .oz _ _ _,_,_,h,_=>by simp[fv]at h
 | .cl _,_,_,h,_=>by simp[fv]at h
theorem IE{S:Sg}{w:World}:∀{x:List AV} {u v:List Value},fvL x=some v->bF S w x u->u=v
 | [],u,v,h,hr=>by
   simp only[fvL]at h;injection h with h;subst h;simpa only[bF]using hr
 | x::r,u,v,h,hr=>by
   simp only[fvL]at h;cases h1:fv x with
   | none=>simp[h1]at h
   | some a=>
     cases E:fvL r with
     | none=>simp[h1,E]at h
     | some l=>
       simp[h1,E]at h;subst h;simp only[bF]at hr;obtain⟨J,t,rfl,F,I⟩:=hr;rw[Ok h1 F,IE E I]
end
mutual
theorem WM{S I:Sg}{w F:World}:∀{x:AV} {u v:Value},fv x=some v->rep S w x u->rep I F x u
 | .v x,u,v,h,hr=>by simpa only[rep]using hr
 | .tup vs,u,v,h,hr=>by
   simp only[fv]at h;cases E:fvL vs with
   | none=>simp[E]at h
   | some l=>
     simp only[rep]at hr |-;obtain⟨l',rfl,h1⟩:=hr;exact⟨l',rfl,IM E h1⟩
 | .agg vs,u,v,h,hr=>by
   simp only[fv]at h;cases E:fvL vs with
   | none=>simp[E]at h
   | some l=>
     simp only[rep]at hr |-;obtain⟨l',rfl,h1,J⟩:=hr;exact⟨l',rfl,IM E h1,J⟩
 | .any,_,_,h,_=>by simp[fv]at h
 | .sl _,_,_,h,_=>by simp[fv]at h
 | .rp _ _,_,_,h,_=>by simp[fv]at h
 | .os _,_,_,h,_=>by simp[fv]at h
 | .op _ _ _,_,_,h,_=>by simp[fv]at h
 | .gd _ _,_,_,h,_=>by simp[fv]at h
 | .fn _ _,_,_,h,_=>by simp[fv]at h
 | .nf _,_,_,h,_=>by simp[fv]at h
 | .oz _ _ _,_,_,h,_=>by simp[fv]at h
 | .cl _,_,_,h,_=>by simp[fv]at h
theorem IM{S M:Sg}{w I:World}:∀{x:List AV} {u v:List Value},fvL x=some v->bF S w x u->bF M I x u
 | [],u,v,h,hr=>by simpa only[bF]using hr
 | x::r,u,v,h,hr=>by
   simp only[fvL]at h;cases h1:fv x with
   | none=>simp[h1]at h
   | some a=>
     cases E:fvL r with
     | none=>simp[h1,E]at h
     | some l=>
       simp only[bF]at hr |-;obtain⟨O,t,rfl,F,J⟩:=hr;exact⟨O,t,rfl,WM h1 F,IM E J⟩
end
def acV(S:Sg)(w:World)(H:aG)(R:AV->aG->Prop)(e:Ending)(w':World):Prop:=
 ∃v r H' S',e=.returned v/\R r H'/\St S' w' H'/\rep S' w' r v/\Grow S w S' w'/\eH S.N H H'
def aX(P:Program)(f:FuncId)(args:List AV)(H:aG)(R:AV->aG->Prop):Prop:=
 ∀S w (vals:List Value),St S w H->bF S w args vals->Calls P f vals.toArray w (acV S w H R)
def bT:aG:=fun _=>none
def RC(P:Program)(f:FuncId)(args:List AV)(R:AV->aG->Prop):Prop:=
 ∀S w (vals:List Value),St S w bT->(∀k,k<w.heap.size->S.fz k)->bF S w args vals->Calls P f vals.toArray w (acV S w bT R)
def PC(P:Program)(f:FuncId)(args:List AV)(r:AV):Prop:=RC P f args fun x _=>x=r
def NC(P:Program)(f:FuncId)(args:List AV)(row:Row)(mk:Nat->AV):Prop:=RC P f args fun x H'=>∃k,x=mk k/\H' k=some row
def AS(P:Program)(f:FuncId)(args:List AV)(H:aG)(r:AV):Prop:=∃args',ConvL H args args'/\PC P f args' r/\(fv r).isSome=true
def cZ(P:Program)(f:FuncId)(args:List AV)(H:aG)(r:AV):Prop:=AS P f args H r\/∃x,r=.nf x/\PC P f args x
theorem MB{q:Bool}{r:AV}{K:AV->Prop}(h:(fv r).isSome=true):nfq q r K=K r:=by
 cases q <;> cases r <;> first|rfl|(simp[fv]at h)
theorem Lk{q:Bool}{r:AV}{K:AV->Prop}(h:nfq q r K):∃z,K z:=by
 unfold nfq at h;split at h
 . exact h.elim
 . exact⟨_,h⟩
 . exact⟨_,h⟩
section
variable{P:Program}{f:FuncId}{args:List AV}{H:aG}{R K:AV->aG->Prop}
theorem RC.mono(h:RC P f args R)(F:∀r H',R r H'->K r H'):RC P f args K:=fun S w vals u E I=>
 (h S w vals u E I).mono fun _ _ ⟨v,r,H',S',h1,J,M⟩=>⟨v,r,H',S',h1,F r H' J,M⟩
theorem St.drop{S:Sg}{w:World}{H':aG}(h:St S w H)(E:∀k r,H' k=some r->H k=some r):St S w H':=
 ⟨h.ro_fz,h.fz_lt,fun k r u=>h.rows k r (E k r u),fun k r u=>h.free k r (E k r u),fun k k' r r' u F=>h.disj k k' r r' (E k r u) (E k' r' F),h.tabs⟩
theorem RC.conv{r:AV}(h:RC P f args fun x H'=>Conv H' x r):PC P f args r:=fun S w vals Z J O=>
 (h S w vals Z J O).mono fun e w' ⟨v,x,H',S',M,T,E,hv,I,hn⟩=>by
   refine⟨v,r,bT,S'.froze H',M,rfl,⟨?_,?_,fun k r F=>by simp[bT]at F,fun k r F=>by simp[bT]at F,fun k k' r r' F=>by simp[bT]at F,E.tabs.keep (S'.le_froze H') (eL.refl S' w')⟩,T.rep E hv,?_,fun _ _ _=>rfl⟩
   . rintro g (u|u)
     . exact .inl (E.ro_fz g u)
     . exact .inr u
   . rintro g (u|⟨k,row,F,u⟩)
     . exact E.fz_lt g u
     . exact(E.rows k row F).block_lt u
   . refine⟨Sg.le_trans I.le (S'.le_froze H'),fun k F=>.inl (I.fz k F),I.os,I.tape,I.output,I.size,I.same,?_⟩
     rintro g (u|⟨k,row,F,u⟩)
     . exact I.newro g u
     . exact .inr fun h2=>E.free k row F g u (I.fz g h2)
def merge(H H':aG):aG:=fun k=>match H' k with|some r=>some r|none=>H k
theorem RC.frame(h:RC P f args R)(hK:∀r H',R r H'->(∀k row,H' k=some row->H k=none)->∃aa,K r aa/\(∀k row,aa k=some row->merge H H' k=some row)/\∀k,H k=none->H' k=none->aa k=none):
   aX P f args H K:=by
 intro S w vals F ha
 let S0:Sg:={ S with fz:=fun k=>k<w.heap.size }
 have an:S.le S0:=⟨fun _ h=>h,Nat.le_refl _,fun _ _=>rfl,fun _ _=>rfl⟩;have ap:St S0 w bT:=⟨fun k u=>F.fz_lt k (F.ro_fz k u),fun _ h=>h,fun k r u=>by simp[bT]at u,fun k r u=>by simp[bT]at u,fun k k' r r' u=>by simp[bT]at u,F.tabs⟩;refine(h S0 w vals ap (fun _ h=>h) (dD an (eL.refl S w) _ _ ha)).mono fun e w' ⟨v,x,H',S',he,hx,J,hv,T,hn⟩=>?_
 have ak:∀k row,H' k=some row->S.N<=k:=fun k row u=>by
   rcases Nat.lt_or_ge k S.N with ai|ah
   . rw[hn k ai rfl]at u;simp at u
   . exact ah
 have aj:∀k row,H' k=some row->H k=none:=fun k row u=>by
   cases hH:H k with
   | none=>rfl
   | some r=>have:=(F.rows k r hH).lt;have:=ak k row u;omega
 obtain⟨aa,aq,au,ar⟩:=hK x H' hx aj
 let S'':Sg:={ S' with fz:=fun k=>S.fz k\/(S'.fz k/\w.heap.size<=k)\/S'.ro k }
 have ab:S'.le S'':=⟨fun _ h=>h,Nat.le_refl _,fun _ _=>rfl,fun _ _=>rfl⟩;have am:∀k,k<S.N->S'.loc k=S.loc k:=T.le.loc;have ae:S.le S'':=⟨fun k u=>T.le.ro k u,T.le.N,T.le.loc,T.le.sz⟩;have M:∀k,k<w.heap.size->w'.heap[k]?=w.heap[k]?:=T.same;have ag:eL S w w':=fun k u=>M k (F.fz_lt k (F.ro_fz k u))
 have af:∀k r,H k=some r->RowOK S'' w' k r:=fun k r u=>(F.rows k r u).keep ae ag fun g E=>M g ((F.rows k r u).block_lt E)
 have ad:∀k r,H' k=some r->RowOK S'' w' k r:=fun k r u=>(J.rows k r u).keep ab (eL.refl S' w') fun _ _=>rfl
 have I:∀k r,H k=some r->∀g,blk (S''.loc k)=some g->blk (S.loc k)=some g/\g<w.heap.size:=fun k r u g E=>by
   have h1:S''.loc k=S.loc k:=am k (F.rows k r u).lt;rw[h1]at E;exact⟨E,(F.rows k r u).block_lt E⟩
 have O:∀k r,H' k=some r->∀g,blk (S''.loc k)=some g->¬S'.fz g/\w.heap.size<=g:=fun k r u g E=>by
   have h1:=J.free k r u g E;refine⟨h1,?_⟩;rcases Nat.lt_or_ge g w.heap.size with ai|ah
   . exact absurd (T.fz g ai) h1
   . exact ah
 have yQ:∀k r,merge H H' k=some r->H' k=some r\/(H k=some r/\H' k=none):=fun k r u=>by
   unfold merge at u;cases h':H' k with
   | none=>rw[h']at u;exact .inr ⟨u,rfl⟩
   | some r'=>rw[h']at u;exact .inl u
 have hM:St S'' w' (merge H H'):=by
   refine⟨fun k u=>.inr (.inr u),?_,?_,?_,?_,J.tabs⟩
   . rintro k (u|u|u)
     . exact Nat.lt_of_lt_of_le (F.fz_lt k u) T.size
     . exact J.fz_lt k u.1
     . exact J.fz_lt k (J.ro_fz k u)
   . intro k r u
     rcases yQ k r u with h'|⟨h',_⟩
     . exact ad k r h'
     . exact af k r h'
   . intro k r u g E hf
     rcases yQ k r u with h'|⟨h',_⟩
     . obtain⟨e1,e2⟩:=O k r h' g E
       rcases hf with hf|hf|hf
       . have:=F.fz_lt g hf;omega
       . exact e1 hf.1
       . exact e1 (J.ro_fz g hf)
     . obtain⟨e1,e2⟩:=I k r h' g E
       rcases hf with hf|hf|hf
       . exact F.free k r h' g e1 hf
       . omega
       . rcases T.newro g hf with Z|Z
         . exact F.free k r h' g e1 (F.ro_fz g Z)
         . exact Z e2
   . intro k k' r r' u al ao g E ac
     rcases yQ k r u with h1|⟨h1,_⟩
     . rcases yQ k' r' al with Z|⟨Z,_⟩
       . exact J.disj k k' r r' h1 Z ao g E ac
       . have:=(O k r h1 g E).2;have:=(I k' r' Z g ac).2;omega
     . rcases yQ k' r' al with Z|⟨Z,_⟩
       . have:=(I k r h1 g E).2;have:=(O k' r' Z g ac).2;omega
       . exact F.disj k k' r r' h1 Z ao g (I k r h1 g E).1 (I k' r' Z g ac).1
 refine⟨v,x,aa,S'',he,aq,hM.drop au,jI ab (eL.refl S' w') _ _ hv,⟨ae,fun _ h=>.inl h,T.os,T.tape,T.output,T.size,fun k u=>M k (F.fz_lt k u),fun k u=>(T.newro k u).imp id (fun Z h3=>Z (F.fz_lt k h3))⟩,?_⟩
 . intro k u h0
   exact ar k h0 (hn k u rfl)
theorem PC.use{r:AV}(h:PC P f args r)(E:K r H):aX P f args H K:=
 RC.frame h fun x H' F J=>⟨H,F▸E,fun k row u=>by
   unfold merge;cases I:H' k with
   | none=>exact u
   | some r'=>rw[J k r' I]at u;simp at u,fun _ h _=>h⟩
theorem NC.use{row:Row}{F:Nat->AV}(h:NC P f args row F)(J:∀k,H k=none->K (F k) (aI H k (some row))):aX P f args H K:=
 RC.frame h fun x H' ⟨k,M,E⟩ I=>⟨aI H k (some row),M▸J k (I k row E),fun j r u=>by
   unfold merge;by_cases e:j=k
   . subst e;rw[aA]at u;rw[E];exact u
   . rw[aD _ _ _ _ e]at u
     cases O:H' j with
     | none=>exact u
     | some r'=>rw[I j r' O]at u;simp at u,fun j h0 h1=>by
   by_cases e:j=k
   . subst e;rw[E]at h1;simp at h1
   . rw[aD _ _ _ _ e];exact h0⟩
theorem AS.val{r:AV}(h:AS P f args H r):∃v,fv r=some v:=by
 obtain⟨_,_,_,u⟩:=h;exact Option.isSome_iff_exists.1 u
theorem AS.calls{r:AV}(h:AS P f args H r){v:Value}(Z:fv r=some v){S:Sg}{w:World}{vals:List Value}(M:St S w H)(ha:bF S w args vals):
   (∀S2 w2,rep S2 w2 r v)/\Calls P f vals.toArray w fun e w'=>e=.returned v/\w'.os=w.os/\w'.tape=w.tape/\w'.output=w.output/\w.heap.size<=w'.heap.size/\∀k,k<w.heap.size->w'.heap[k]?=w.heap[k]?:=by
 obtain⟨args',hc,hp,hf⟩:=h
 let S0:Sg:={ S.froze H with fz:=fun k=>k<w.heap.size }
 have I:(S.froze H).le S0:=⟨fun _ h=>h,Nat.le_refl _,fun _ _=>rfl,fun _ _=>rfl⟩;have T:St S0 w bT:=⟨fun k F=>by
   rcases F with F|⟨j,r,hj,J⟩
   . exact M.fz_lt k (M.ro_fz k F)
   . exact(M.rows j r hj).block_lt J,fun _ h=>h,fun k r F=>by simp[bT]at F,fun k r F=>by simp[bT]at F,fun k k' r r' F=>by simp[bT]at F,(M.tabs.keep (S.le_froze H) (eL.refl S w)).keep I (eL.refl _ w)⟩
 have u:=hp S0 w vals T (fun _ h=>h) (dD I (eL.refl _ w) _ _ (hc.rep M ha));refine⟨fun S2 w2=>?_,u.mono fun e w' ⟨v',x,H',S',he,hx,O,E,J,hn⟩=>?_⟩
 . obtain⟨e,w',fr,⟨v',x,H',S',he,hx,O,E,_⟩,_⟩:=u []
   subst hx;have:=Ok Z E;subst this;exact WM Z E
 . subst hx
   have:=Ok Z E;subst this;exact⟨he,J.os,J.tape,J.output,J.size,J.same⟩
theorem St.after{S:Sg}{w w':World}(u:St S w H)(I:w.heap.size<=w'.heap.size)(F:∀k,k<w.heap.size->w'.heap[k]?=w.heap[k]?):St S w' H:=
 ⟨u.ro_fz,fun k h=>Nat.lt_of_lt_of_le (u.fz_lt k h) I,fun k r h=>(u.rows k r h).keep S.le_refl (fun j E=>F j (u.fz_lt j (u.ro_fz j E))) fun g J=>F g ((u.rows k r h).block_lt J),u.free,u.disj,u.tabs.keep S.le_refl (fun j E=>F j (u.fz_lt j (u.ro_fz j E)))⟩
theorem St.grow{S:Sg}{w w':World}(u:St S w H)(F:w'.os=w.os)(E:w'.tape=w.tape)(M:w'.output=w.output)(I:w.heap.size<=w'.heap.size)(J:∀k,k<w.heap.size->w'.heap[k]?=w.heap[k]?):Grow S w S w':=
 ⟨S.le_refl,fun _ h=>h,F,E,M,I,fun k h=>J k (u.fz_lt k h),fun _ h=>.inl h⟩
theorem AS.use{r:AV}(h:AS P f args H r)(hK:K r H):aX P f args H K:=by
 intro S w vals E O;obtain⟨v,u⟩:=h.val;obtain⟨hv,T⟩:=h.calls u E O;refine T.mono fun e w' ⟨M,Z,J,hu,F,I⟩=>⟨v,r,H,S,M,hK,E.after F I,?_,E.grow Z J hu F I,eH.refl _ _⟩
 exact hv S w'
end
end Go.Aw
end
section
namespace Go.Aw
open Go.RowKit
def Rel(n:Nat)(S0:Sg)(w0:World)(H0:aG)(ρ:Env)(H:aG)(a:Act)(w:World):Prop:=
 ∃S,St S w H/\FR S w ρ a/\Grow S0 w0 S w/\eH S0.N H0 H/\a.defers=[]/\a.tmps.size=n
def afK(n:Nat):Option Nat->Bool
 | some d=>decide (d<n)
 | none=>true
def iJ(n:Nat)(o:Oper):Bool:=o.op.operands.all (opB n)&&afK n o.dst
section
variable{P:Program}{n:Nat}{S0:Sg}{w0:World}{H0:aG}{mt:Nat->Bool}{ops:Array Oper}
theorem uS{o:Oper}(h:iJ n o=true):(∀x∈o.op.operands,opB n x=true)/\afK n o.dst=true:=by
 simp only[iJ,Bool.and_eq_true]at h;exact⟨fun x u=>Array.all_eq_true_iff_forall_mem.1 h.1 x u,h.2⟩
theorem sL(a:Act)(d:Option Nat)(v:Value):(a.put d v).tmps.size=a.tmps.size:=by cases d <;> simp[Act.put]
theorem lJ(a:Act)(d:Option Nat)(v:Value):(a.put d v).defers=a.defers:=by cases d <;> simp[Act.put]
theorem uK{S:Sg}{w:World}{ρ:Env}{a:Act}{o:Oper}{K:Option Bool->Prop}(J:∀o∈ops,iJ n o=true)(hF:FR S w ρ a)(hn:a.tmps.size=n)(h:bX ops ρ o.guard K):
   ∃G,K G/\(Region.wanted o (yielded ops a.tmps)=true↔gt G):=by
 unfold bX at h;unfold Region.wanted;cases Z:o.guard with
 | none=>
   rw[Z]at h;exact⟨none,h,by simp[gt]⟩
 | some jw=>
   obtain⟨j,u⟩:=jw;rw[Z]at h;simp only at h;cases I:(ops[j]?).bind (·.dst)with
   | none=>rw[I]at h;exact h.elim
   | some t=>
     rw[I]at h;simp only at h;have M:t<a.tmps.size:=by
       cases O:ops[j]? with
       | none=>simp[O]at I
       | some oj=>
         simp[O]at I;have:=(uS (J oj (Array.mem_of_getElem? O))).2;rw[I]at this;simpa[afK,hn]using this
     have E:yielded ops a.tmps j=match a.tmps.getD t undef with| .bool b=>some b|_=>none:=by
       unfold yielded;rw[I];have e:a.tmps.getD t undef=a.tmps[t]:=by simp[Array.getD,M]
       rw[e];simp only[Option.bind_some,Array.getElem?_eq_getElem M];cases a.tmps[t] <;> rfl
     have F:=hF t M;split at h
     . rename_i b T
       rw[T]at F;simp only[rep]at F;rw[F]at E;refine⟨_,h,?_⟩;simp only[E,gt];cases b <;> cases u <;> simp
     . rename_i g b T
       rw[T]at F;simp only[rep]at F;refine⟨_,h,?_⟩;cases g with
       | true=>
         rw[F.1 rfl]at E;simp only[E,gt];cases b <;> cases u <;> simp
       | false=>
         rw[F.2 rfl]at E;simp[undef]at E;simp[E,gt]
     . exact h.elim
theorem dV{S:Sg}{w:World}{G:Option Bool}{z:AV}(h:¬gt G):rep S w (wr G z) undef:=by
 cases G with
 | none=>exact absurd trivial h
 | some b=>
   have:b=false:=by simpa[gt]using h
   subst this;simp[wr,rep]
theorem eI{S:Sg}{w:World}{G:Option Bool}{z:AV}{v:Value}(h:gt G)(u:rep S w z v):rep S w (wr G z) v:=by
 cases G with
 | none=>exact u
 | some b=>
   have:b=true:=h;subst this;simpa[wr,rep]using u
end
section
variable{P:Program}{n:Nat}{S0:Sg}{w0:World}{H0:aG}{mt:Nat->Bool}{ops:Array Oper}{K:Env->aG->Prop}{K':Act->World->Prop}{Q':Exit->Act->World->Prop}{ρ:Env}{H:aG}{a:Act}{w:World}{o:Oper}{S:Sg}
def vK(P:Program)(ops:Array Oper)(o:Oper)(a:Act)(w:World)(K':Act->World->Prop)(Q':Exit->Act->World->Prop):Prop:=
 (Region.wanted o (yielded ops a.tmps)=true->o.wp P a w K' Q')/\(Region.wanted o (yielded ops a.tmps)=false->K' (a.put o.dst undef) w)
theorem dS{v:Value}{w':World}(h:(execOp a.eval o).run P w=.ok (.value v) w')(u:K' (a.put o.dst v) w'):o.wp P a w K' Q':=by
 unfold Oper.wp;rw[h];exact u
theorem Rel.step(J:St S w H)(T:FR S w ρ a)(I:Grow S0 w0 S w)(M:eH S0.N H0 H)(hd:a.defers=[])(O:a.tmps.size=n){S':Sg}{w':World}{H':aG}{z:AV}{v:Value}{d:Option Nat}
   (E:St S' w' H') (u:Grow S w S' w') (F:eH S.N H H') (Z:rep S' w' z v):Rel n S0 w0 H0 (upd ρ d z) H' (a.put d v) w':=
 ⟨S',E,FR.put (T.keep u.le (u.kept J)) Z,I.trans u,M.trans F I.le.N,by rw[lJ];exact hd,by rw[sL];exact O⟩
theorem pB(I:St S w H)(O:FR S w ρ a)(T:Grow S0 w0 S w)(hN:eH S0.N H0 H)(hd:a.defers=[])(M:a.tmps.size=n)(hb:∀x∈o.op.operands,opB n x=true){G:Option Bool}
   (F:Region.wanted o (yielded ops a.tmps)=true↔gt G) (hK:∀E H' a' w',K E H'->Rel n S0 w0 H0 E H' a' w'->K' a' w') (h:fT P G ρ H o.op fun x=>K (upd ρ o.dst (wr G x)) H):
   vK P ops o a w K' Q':=by
 obtain⟨z,Z,hg⟩:=CN (M▸hb) O I.rows h;refine⟨fun J=>?_,fun J=>?_⟩
 . have u:=F.1 J
   obtain⟨v,hv,hr⟩:=hg u;exact dS (hr w (Agree.refl S H w) o rfl) (hK _ _ _ _ Z (Rel.step I O T hN hd M I (Grow.refl S w) (eH.refl _ _) (eI u hv)))
 . have u:¬gt G:=fun h=>by rw[F.2 h]at J;simp at J
   exact hK _ _ _ _ Z (Rel.step I O T hN hd M I (Grow.refl S w) (eH.refl _ _) (dV u))
theorem mM(E:St S w H){r:Option Row}:eH S.N H (aI H S.N r):=fun k u h=>by rw[aD _ _ _ _ (Nat.ne_of_lt u)];exact h
theorem aaK(t:TypeId)(v:Value)(w:World):(Instr.box t v).run P w=.ok (.pointer (some ⟨w.heap.size,0,none⟩)) (w.alloc (.cells v.cells t)):=by
 simp[Instr.box,newVar,newRow]
theorem SX{t:TypeId}{z:List AV}(h:dC P t=some z)(I:Value)(w:World):∃(v:Value) (i:TypeInfo),P.info? t=some i/\z=v.cells.toList.map nY/\(∀u∈v.cells.toList,u.oneCell'=true)/\v.cells.size≠0 /\
   (Instr.alloc t true I).run P w=.ok (.pointer (some ⟨w.heap.size,0,none⟩)) (w.alloc (.cells v.cells t)):=by
 obtain⟨i,v,M,O,E,J,F,h1⟩:=lK h;refine⟨v,i,M,E,h1,by rw[J];exact F,?_⟩;simp[Instr.alloc,zeroValue,typeInfo,M,O,newVar,newRow]
theorem BB(J:St S w H){t:TypeId}{cs:List AV}{l:List Value}(E:0<cs.length)(F:bF S w cs l)(h1:∀u∈l,u.oneCell'=true):
   ∃S',St S' (w.alloc (.cells l.toArray t)) (aI H S.N (some ⟨t,cs.length,[cs]⟩))/\Grow S w S' (w.alloc (.cells l.toArray t))/\rep S' (w.alloc (.cells l.toArray t)) (.op S.N 0 0) (.pointer (some ⟨w.heap.size,0,none⟩)):=by
 have I:=fV _ _ F;have:=J.newRow (e:=t) (sz:=cs.length) (cap:=1) (es:=[cs]) (xs:=l) (cur:=l.toArray) E (by simp) (by simpa using F) h1 (by simp) (by simp[maxLen]) (by simp[I]) (by simp[<-I]) (w':=w.alloc (.cells l.toArray t)) rfl rfl rfl rfl;refine⟨_,this.1,this.2,?_⟩;simp only[rep,Sg.addRow];exact⟨Nat.lt_succ_self _,w.heap.size,1,1,by simp,by simp⟩
theorem ED:∀(i n:Nat),IY i n=List.range' i n
 | _,0=>rfl
 | i,n+1=>by simp[IY,List.range'_succ,ED (i+1) n]
theorem GO{sz n:Nat}:∀(l:List (Nat×List AV)) (vs:List (Nat×Value)) (i:Nat) (A:Array Value),l.map (·.1)=IY i l.length->cP sz (l.map (·.2))->l.length=vs.length ->
   (∀(j k:Nat) (c:List AV),l[j]?=some (k,c)->∃(v:Value) (l':List Value),vs[j]?=some (k,v)/\v.cells=List.toArray l'/\bF S w c l'/\∀u∈l',u.oneCell'=true)->A.size=n*sz->i+l.length=n ->
   ∃xs:List Value,Instr.fill (fun i=>some (i*sz,sz)) A vs=some (A.toList.take (i*sz)++xs).toArray/\bF S w (l.map (·.2)).flatten xs/\∀u∈xs,u.oneCell'=true
 | [],vs,i,A,_,_,hl,_,hA,hi=>by
   have:vs=[]:=List.eq_nil_of_length_eq_zero (by simpa using hl.symm);subst this;refine⟨[],?_,by simp[bF],by simp⟩;simp only[Instr.fill,List.append_nil];have:i=n:=by simpa using hi
   subst this;rw[List.take_of_length_le (by simp[hA])]
 | (k,c)::rest,vs,i,A,E,hlen,hl,hv,hA,hi=>by
   simp only[List.map_cons,List.length_cons,IY,List.cons.injEq]at E;obtain⟨rfl,E⟩:=E;simp only[List.map_cons,cP]at hlen;obtain⟨v,l',M,e2,T,e4⟩:=hv 0 k c (by simp);cases vs with
   | nil=>simp at M
   | cons q vs=>
     simp at M;subst M;have F:l'.length=sz:=by rw[fV _ _ T];exact hlen.1
     simp only[List.length_cons]at hi;have hm:(k+1)*sz<=n*sz:=Nat.mul_le_mul_right _ (by omega);rw[Nat.add_mul,Nat.one_mul]at hm;have O:=Bc l' 0 A (k*sz) (by rw[F,hA];omega);simp only[Nat.add_zero]at O;obtain⟨xs,f1,f2,f3⟩:=GO (n:=n) rest vs (k+1) (A.toList.take (k*sz)++l'++A.toList.drop (k*sz+l'.length)).toArray E hlen.2 (by simpa using hl) (fun j i c Z=>by simpa using hv (j+1) i c (by simpa using Z))
       (by simp only[List.size_toArray,List.length_append,List.length_take,List.length_drop,Array.length_toList,F,hA];omega) (by omega)
     refine⟨l'++xs,?_,?_,?_⟩
     . simp only[Instr.fill,e2,List.size_toArray,F]
       rw[if_neg (by simp[hA];omega)];have I:(Array.foldl (fun cs (x:Value×Nat)=>cs.setIfInBounds (k*sz+x.2) x.1) A l'.toArray.zipIdx)=(A.toList.take (k*sz)++l'++A.toList.drop (k*sz+l'.length)).toArray:=by
         rw[<-O,<-Array.foldl_toList];simp
       rw[I,f1]
       congr 2
       have e5:List.take ((k+1)*sz) (A.toList.take (k*sz)++l'++A.toList.drop (k*sz+l'.length))=A.toList.take (k*sz)++l':=by
         rw[Nat.add_mul,Nat.one_mul,List.take_append_of_le_length (by rw[List.length_append,List.length_take,Array.length_toList,F,hA];omega),List.take_of_length_le (by rw[List.length_append,List.length_take,Array.length_toList,F,hA];omega)]
       rw[e5,List.append_assoc]
     . simp only[List.map_cons,List.flatten_cons]
       exact cT _ _ _ _ T f2
     . intro u J
       rcases List.mem_append.1 J with J|J
       . exact e4 u J
       . exact f3 u J
theorem DH{t e:TypeId}{sz O:Nat}(he:bR P t=some (e,sz,O)){l:List (Nat×List AV)}{E:Array (Nat×Value)}{m:Nat}(J:l.map (·.1)=IY 0 m)(M:cP sz (l.map (·.2)))(hl:l.length=E.toList.length)
   (hv:∀(j k:Nat) (c:List AV),l[j]?=some (k,c)->∃(v:Value) (l':List Value),E.toList[j]?=some (k,v)/\v.cells=List.toArray l'/\bF S w c l'/\∀u∈l',u.oneCell'=true) (hm:m*sz<=16777216):
   ∃xs:List Value,(Instr.buildSlice t m E).run P w=.ok (.slice (some ⟨w.heap.size,0,none⟩) m m) (w.alloc (.cells xs.toArray e))/\bF S w (l.map (·.2)).flatten xs/\(∀u∈xs,u.oneCell'=true)/\l.length=m/\xs.length=m*sz:=by
 obtain⟨I,z,hu,hi,rfl,_,ad,_,hz,ae⟩:=gR he;have Z:l.length=m:=by
   have:=congrArg List.length J;simpa[ED]using this
 have F:∀xs:List Value,bF S w (l.map (·.2)).flatten xs->xs.length=m*I.size:=fun xs h=>by
   rw[fV _ _ h,mH _ (gP.1 M),List.length_map,Z]
 subst Z;obtain⟨xs,f1,f2,f3⟩:=GO (n:=l.length) l E.toList 0 ((Array.range (l.length*I.size)).map (z.cells[·%z.cells.size]!)) J M hl hv (by simp) (by simp);simp only[Nat.zero_mul,List.take_zero,List.nil_append]at f1;refine⟨xs,?_,f2,f3,rfl,F xs f2⟩;have ab:¬l.length*I.size>2^24:=by simpa using hm
 by_cases h0:l.length*I.size=0
 . have T : l.length = 0 := by
     rcases Nat.mul_eq_zero.1 h0 with h|h
     . exact h
     . omega
   have aa:E.toList=[]:=List.eq_nil_of_length_eq_zero (by rw[<-hl,T]);have ac:xs=[]:=List.eq_nil_of_length_eq_zero (by rw[F xs f2,h0]);subst ac;simp[Instr.buildSlice,run_underlying hu,sizeOf,typeInfo,hi,h0,aa,Instr.fill,newRow,T];have:(Array.range 0).map (fun _=>(default:Value))=#[]:=Array.eq_empty_of_size_eq_zero (by simp);rw[this]
 . simp[Instr.buildSlice,run_underlying hu,sizeOf,typeInfo,hi,ab,h0,zeroValue,hz,newRow]
   rw[f1];simp
end
end Go.Aw
end
