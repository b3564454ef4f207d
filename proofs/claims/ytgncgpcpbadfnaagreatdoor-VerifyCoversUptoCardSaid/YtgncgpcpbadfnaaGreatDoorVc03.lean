import Derived.ArgAppend
import Derived.Deep.LoopGhost
import Derived.Test.YtgncgpcpbadfnaaGreatDoorVc02
set_option linter.unusedSimpArgs false
set_option linter.unusedVariables false
set_option linter.defProp false
set_option maxRecDepth 100000
section
namespace Go.Aw
open Go.RowKit
def rS(w:World)(g:Nat):Option (Array Value):=match w.heap[g]? with
 | some (.cells cs _ _)=>some cs
 | _=>none
def KE(S:Sg)(w:World):Prop:=∀t∈VV,S.ro t.1/\rS w t.1=some t.2
def KE.keep{S S':Sg}{w w':World}(h:KE S w)(E:S.le S')(F:fN S w w'):KE S' w':=fun t A=>⟨E.ro _ (h t A).1,by unfold rS;rw[F t.1 (h t A).1];exact(h t A).2⟩
structure St(S:Sg)(w:World)(H:aH):Prop where
 ro_fz:∀k,S.ro k->S.fz k
 fz_lt:∀k,S.fz k->k<w.heap.size
 rows:yK S w H
 free:∀k r,H k=some r->∀g,blk (S.loc k)=some g->¬S.fz g
 disj:∀k k' r r',H k=some r->H k'=some r'->k≠k'->∀g,blk (S.loc k)=some g->blk (S.loc k')≠some g
 tabs:KE S w
structure Grow(S:Sg)(w:World)(S':Sg)(w':World):Prop where
 le:S.le S'
 fz:∀k,S.fz k->S'.fz k
 os:w'.os=w.os
 tape:w'.tape=w.tape
 output:w'.output=w.output
 size:w.heap.size<=w'.heap.size
 same:∀k,S.fz k->w'.heap[k]?=w.heap[k]?
 newro:∀k,S'.ro k->S.ro k\/¬S.fz k
def Grow.refl(S:Sg)(w:World):Grow S w S w:=⟨S.le_refl,fun _ h=>h,rfl,rfl,rfl,Nat.le_refl _,fun _ _=>rfl,fun _ h=>.inl h⟩
def Grow.trans{S S' F:Sg}{w w' I:World}(h:Grow S w S' w')(A:Grow S' w' F I):Grow S w F I:=
 ⟨Sg.le_trans h.le A.le,fun k E=>A.fz k (h.fz k E),A.os.trans h.os,A.tape.trans h.tape,A.output.trans h.output,Nat.le_trans h.size A.size,
  fun k E=>(A.same k (h.fz k E)).trans (h.same k E),
  fun k E=>by rcases A.newro k E with h1|h1;exact h.newro k h1;exact .inr fun J=>h1 (h.fz k J)⟩
def eV(N:Nat)(H H':aH):Prop:=∀k,k<N->H k=none->H' k=none
def eV.refl(N:Nat)(H:aH):eV N H H:=fun _ _ h=>h
def eV.trans{N F:Nat}{H H' A:aH}(h:eV N H H')(J:eV F H' A)(I:N<=F):eV N H A:=fun k E h0=>J k (Nat.lt_of_lt_of_le E I) (h k E h0)
section
variable{S S':Sg}{w w':World}{H H':aH}
def St.kept(A:St S w H)(E:∀k,S.fz k->w'.heap[k]?=w.heap[k]?):fN S w w':=fun k F=>E k (A.ro_fz k F)
def Grow.kept(A:St S w H)(E:Grow S w S' w'):fN S w w':=A.kept E.same
def St.fresh(A:St S w H):H S.N=none:=by
 cases h:H S.N with
 | none=>rfl
 | some r=>exact absurd (A.rows _ r h).lt (Nat.lt_irrefl _)
def RowOK.block_lt{k:Nat}{r:Row}(h:RowOK S w k r){g:Nat}(A:blk (S.loc k)=some g):g<w.heap.size:=by
 rcases h.own with⟨xs,E,_⟩|⟨I,ms,h1,F,_⟩
 ·refine(E.lt g ?_).2;rcases E.2 with⟨hv,_⟩|⟨_,_,_,hv,_⟩ <;> (rw[hv]at A |-;exact A)
 ·rw[h1]at A;injection A with A;subst A;exact(Array.getElem?_eq_some_iff.1 F).1
def CX(A:S.le S')(E:fN S w w'):∀(i:Nat) (es:List (List AV)) (ms:List MapEntry),kJ S w i es ms->kJ S' w' i es ms
 | _,[],_,h=>h
 | i,cs::r,ms,h=>by simp only[kJ]at h |-;obtain⟨m,t,rfl,h1,I,F⟩:=h;exact⟨m,t,rfl,h1,dK A E _ _ I,CX A E (i+1) r t F⟩
def RowOK.keep{k:Nat}{r:Row}(h:RowOK S w k r)(A:S.le S')(J:fN S w w')(I:∀g,blk (S.loc k)=some g->w'.heap[g]?=w.heap[g]?):RowOK S' w' k r:=by
 refine⟨Nat.lt_of_lt_of_le h.lt A.N,by rw[A.sz k h.lt];exact h.sz,h.pos,h.len,?_⟩;rcases h.own with⟨xs,M,T,h1⟩|⟨g,ms,h1,F,E⟩
 ·refine .inl ?_;unfold J5;rw[A.loc k h.lt];refine⟨xs,⟨M.1,?_⟩,dK A J _ _ T,h1⟩;rcases M.2 with F|⟨g,cap,cur,O,E,U,X⟩
  ·exact .inl F
  ·exact .inr ⟨g,cap,cur,O,E,by rw[I g (by rw[O];rfl)];exact U,X⟩
 ·refine .inr ⟨g,ms,?_,?_,CX A J 0 _ _ E.1,E.2⟩
  ·rw[A.loc k h.lt];exact h1
  ·rw[I g (by rw[h1];rfl)];exact F
def FR.keep{ρ:Env}{a:Act}(h:FR S w ρ a)(A:S.le S')(F:fN S w w'):FR S' w' ρ a:=fun t E=>lG A F _ _ (h t E)
def FR.put{ρ:Env}{a:Act}(h:FR S w ρ a){d:Option Nat}{z:AV}{v:Value}(I:rep S w z v):FR S w (upd ρ d z) (a.put d v):=by
 intro t E;cases d with
 | none=>exact h t E
 | some d=>
  simp only[Act.put,upd]at E |-;have A:t<a.tmps.size:=by simpa using E
  by_cases e:t=d
  ·subst e;simpa[Array.getD,A]using I
  ·have h1:=h t A;have F:d≠t:=fun h=>e h.symm
   simp only[if_neg e];have:(a.tmps.setIfInBounds d v).getD t undef=a.tmps.getD t undef:=by simp[Array.getD_eq_getD_getElem?,Array.getElem?_setIfInBounds,F]
   rw[this];exact h1
def Sg.addRow(S:Sg)(v:Value)(sz:Nat):Sg:={ S with loc:=fun k=>if k=S.N then v else S.loc k,sz:=fun k=>if k=S.N then sz else S.sz k,N:=S.N+1 }
def Sg.le_addRow(S:Sg)(v:Value)(sz:Nat):S.le (S.addRow v sz):=
 ⟨fun _ h=>h,Nat.le_succ _,fun k A=>by simp[Sg.addRow,Nat.ne_of_lt A],fun k A=>by simp[Sg.addRow,Nat.ne_of_lt A]⟩
def qZ{k:Nat}{r:Option Row}:aI H k r k=r:=aB H k r
def St.newRow(F:St S w H){e:TypeId}{sz cap:Nat}{es:List (List AV)}{xs:List Value}{cur:Array Value}(ah:0<sz)(aa:∀cs∈es,cs.length=sz)
  (hr:bC S w es.flatten xs) (h1:∀u∈xs,u.oneCell'=true) (hn:es.length<=cap) (ae:cap<=maxLen) (aj:cur.size=cap*sz) (ab:cur.toList.take (es.length*sz)=xs) {w':World}
  (hw:w'.heap=w.heap.push (.cells cur e)) (al:w'.os=w.os) (ac:w'.tape=w.tape) (ai:w'.output=w.output):
  St (S.addRow (.slice (some ⟨w.heap.size,0,none⟩) es.length cap) sz) w' (aI H S.N (some ⟨e,sz,es⟩))/\Grow S w (S.addRow (.slice (some ⟨w.heap.size,0,none⟩) es.length cap) sz) w':=by
 have M:∀k,k<w.heap.size->w'.heap[k]?=w.heap[k]?:=fun k E=>by rw[hw,Array.getElem?_push,if_neg (by omega)]
 have af:w'.heap[w.heap.size]?=some (.cells cur e (0,0)):=by rw[hw];simp
 have am:w'.heap.size=w.heap.size+1:=by rw[hw];simp
 have Z:=S.le_addRow (.slice (some ⟨w.heap.size,0,none⟩) es.length cap) sz;have O:fN S w w':=fun k E=>M k (F.fz_lt k (F.ro_fz k E))
 have A:(S.addRow (.slice (some ⟨w.heap.size,0,none⟩) es.length cap) sz).loc S.N=.slice (some ⟨w.heap.size,0,none⟩) es.length cap:=by simp[Sg.addRow]
 have U:∀k,k<S.N->(S.addRow (.slice (some ⟨w.heap.size,0,none⟩) es.length cap) sz).loc k=S.loc k:=Z.loc;have J:∀k r,k≠S.N->aI H S.N (some ⟨e,sz,es⟩) k=some r->H k=some r:=fun k r E h=>by rwa [aD _ _ _ _ E]at h
 refine⟨⟨F.ro_fz,fun k E=>by have:=F.fz_lt k E;omega,?_,?_,?_,F.tabs.keep Z O⟩,⟨Z,fun _ h=>h,al,ac,ai,by omega,fun k E=>M k (F.fz_lt k E),fun _ h=>.inl h⟩⟩
 ·intro k r E;by_cases e0:k=S.N
  ·subst e0;rw[qZ]at E;injection E with E;subst E;refine⟨Nat.lt_succ_self _,by simp[Sg.addRow],ah,aa,.inl ⟨xs,⟨?_,.inr ⟨w.heap.size,cap,cur,A,Nat.zero_le _,af,hn,ae,aj,ab⟩⟩,dK Z O _ _ hr,h1⟩⟩;rw[fS _ _ hr,mJ es aa]
  ·have I:=J k r e0 E;exact(F.rows k r I).keep Z O fun g X=>M g ((F.rows k r I).block_lt X)
 ·intro k r E g X;by_cases e0:k=S.N
  ·subst e0;rw[A]at X;simp only[blk,Option.some.injEq]at X;subst X;exact fun h=>Nat.lt_irrefl _ (F.fz_lt _ h)
  ·have I:=J k r e0 E;rw[U k (F.rows k r I).lt]at X;exact F.free k r I g X
 ·intro k k' r r' E I ak g X T;by_cases e0:k=S.N
  ·subst e0;rw[A]at X;simp only[blk,Option.some.injEq]at X;subst X;have Y:=J k' r' (Ne.symm ak) I;rw[U k' (F.rows k' r' Y).lt]at T;exact Nat.lt_irrefl _ ((F.rows k' r' Y).block_lt T)
  ·have Y:=J k r e0 E;rw[U k (F.rows k r Y).lt]at X;by_cases e1:k'=S.N
   ·subst e1;rw[A]at T;simp only[blk,Option.some.injEq]at T;subst T;exact Nat.lt_irrefl _ ((F.rows k r Y).block_lt X)
   ·have ag:=J k' r' e1 I;rw[U k' (F.rows k' r' ag).lt]at T;exact F.disj k k' r r' Y ag ak g X T
def St.newMap(I:St S w H){w':World}(hw:w'.heap=w.heap.push (.map #[] 0))(ag:w'.os=w.os)(aa:w'.tape=w.tape)(ae:w'.output=w.output):
  St (S.addRow (.map (some w.heap.size)) 2) w' (aI H S.N (some ⟨0,2,[]⟩))/\Grow S w (S.addRow (.map (some w.heap.size)) 2) w':=by
 have O:∀k,k<w.heap.size->w'.heap[k]?=w.heap[k]?:=fun k E=>by rw[hw,Array.getElem?_push,if_neg (by omega)]
 have ab:w'.heap[w.heap.size]?=some (.map #[] 0):=by rw[hw];simp
 have ah:w'.heap.size=w.heap.size+1:=by rw[hw];simp
 have T:=S.le_addRow (.map (some w.heap.size)) 2;have Y:fN S w w':=fun k E=>O k (I.fz_lt k (I.ro_fz k E))
 have A:(S.addRow (.map (some w.heap.size)) 2).loc S.N=.map (some w.heap.size):=by simp[Sg.addRow]
 have J:∀k r,k≠S.N->aI H S.N (some ⟨0,2,[]⟩) k=some r->H k=some r:=fun k r E h=>by rwa [aD _ _ _ _ E]at h
 refine⟨⟨I.ro_fz,fun k E=>by have:=I.fz_lt k E;omega,?_,?_,?_,I.tabs.keep T Y⟩,⟨T,fun _ h=>h,ag,aa,ae,by omega,fun k E=>O k (I.fz_lt k E),fun _ h=>.inl h⟩⟩
 ·intro k r E;by_cases Z:k=S.N
  ·subst Z;rw[qZ]at E;injection E with E;subst E;exact⟨Nat.lt_succ_self _,by simp[Sg.addRow],by simp,by simp,.inr ⟨w.heap.size,[],A,ab,by simp[kJ],rfl⟩⟩
  ·have F:=J k r Z E;exact(I.rows k r F).keep T Y fun g U=>O g ((I.rows k r F).block_lt U)
 ·intro k r E g U;by_cases Z:k=S.N
  ·subst Z;rw[A]at U;simp only[blk,Option.some.injEq]at U;subst U;exact fun h=>Nat.lt_irrefl _ (I.fz_lt _ h)
  ·have F:=J k r Z E;rw[T.loc k (I.rows k r F).lt]at U;exact I.free k r F g U
 ·intro k k' r r' E F af g U M;by_cases Z:k=S.N
  ·subst Z;rw[A]at U;simp only[blk,Option.some.injEq]at U;subst U;have X:=J k' r' (Ne.symm af) F;rw[T.loc k' (I.rows k' r' X).lt]at M;exact Nat.lt_irrefl _ ((I.rows k' r' X).block_lt M)
  ·have X:=J k r Z E;rw[T.loc k (I.rows k r X).lt]at U;by_cases e1:k'=S.N
   ·subst e1;rw[A]at M;simp only[blk,Option.some.injEq]at M;subst M;exact Nat.lt_irrefl _ ((I.rows k r X).block_lt U)
   ·have ac:=J k' r' e1 F;rw[T.loc k' (I.rows k' r' ac).lt]at M;exact I.disj k k' r r' X ac af g U M
def St.setMap(M:St S w H){k g:Nat}{r:Row}(hk:H k=some r)(hl:S.loc k=.map (some g)){ms:List MapEntry}{es:List (List AV)}(he:kJ S w 0 es ms)(h2:r.sz=2)(ae:g<w.heap.size):
  St S { w with heap:=w.heap.setIfInBounds g (.map ms.toArray ms.length) } (aI H k (some { r with es:=es }))/\Grow S w S { w with heap:=w.heap.setIfInBounds g (.map ms.toArray ms.length) }:=by
 have hR:=M.rows k r hk;have Y:¬S.fz g:=M.free k r hk g (by rw[hl];rfl);have E:∀j,j≠g->(w.heap.setIfInBounds g (.map ms.toArray ms.length))[j]?=w.heap[j]?:=fun j A=>by rw[Array.getElem?_setIfInBounds,if_neg (Ne.symm A)]
 have X:(w.heap.setIfInBounds g (.map ms.toArray ms.length))[g]?=some (.map ms.toArray ms.length):=by rw[Array.getElem?_setIfInBounds];simp[ae]
 have F:fN S w { w with heap:=w.heap.setIfInBounds g (.map ms.toArray ms.length) }:=fun j A=>E j (fun e=>Y (e▸M.ro_fz j A))
 have p:∀j r',aI H k (some { r with es:=es }) j=some r'->∃T,H j=some T:=fun j r' A=>by
  by_cases e:j=k
  ·subst e;exact⟨r,hk⟩
  ·rw[aD _ _ _ _ e]at A;exact⟨_,A⟩
 have Z:∀(i:Nat) (es:List (List AV)) (ms:List MapEntry),kJ S w i es ms->∀cs∈es,cs.length=2:=by
  intro i es;induction es generalizing i with
  | nil=>simp
  | cons c es ih=>
   intro ms h cs I;simp only[kJ]at h;obtain⟨m,t,rfl,_,h4,h5⟩:=h;rcases List.mem_cons.1 I with rfl|I
   ·have:=fS _ _ h4;simpa using this.symm
   ·exact ih (i+1) t h5 cs I
 refine⟨⟨M.ro_fz,fun j A=>by simpa using M.fz_lt j A,?_,?_,?_,M.tabs.keep S.le_refl F⟩,⟨S.le_refl,fun _ h=>h,rfl,rfl,rfl,by simp,fun j A=>E j (fun e=>Y (e▸A)),fun _ h=>.inl h⟩⟩
 ·intro j r' A;by_cases e:j=k
  ·subst e;rw[qZ]at A;injection A with A;subst A;exact⟨hR.lt,hR.sz,hR.pos,fun cs I=>(Z 0 es ms he cs I).trans h2.symm,.inr ⟨g,ms,hl,X,CX S.le_refl F 0 _ _ he,h2⟩⟩
  ·rw[aD _ _ _ _ e]at A;exact(M.rows j r' A).keep S.le_refl F fun U J=>E U (fun e'=>M.disj j k r' r A hk e U J (by rw[hl,e'];rfl))
 ·intro j r' A U J;obtain⟨T,O⟩:=p j r' A;exact M.free j T O U J
 ·intro j j' r1 r2 A O aa U J ac;obtain⟨q1,af⟩:=p j r1 A;obtain⟨q2,ab⟩:=p j' r2 O;exact M.disj j j' q1 q2 af ab aa U J ac
def St.nilRow(T:St S w H)(e:TypeId){sz:Nat}(Y:0<sz):
  St (S.addRow (.slice none 0 0) sz) w (aI H S.N (some ⟨e,sz,[]⟩))/\Grow S w (S.addRow (.slice none 0 0) sz) w:=by
 have I:=S.le_addRow (.slice none 0 0) sz;have A:(S.addRow (.slice none 0 0) sz).loc S.N=.slice none 0 0:=by simp[Sg.addRow]
 have E:∀k r,k≠S.N->aI H S.N (some ⟨e,sz,[]⟩) k=some r->H k=some r:=fun k r J h=>by rwa [aD _ _ _ _ J]at h
 refine⟨⟨T.ro_fz,T.fz_lt,?_,?_,?_,T.tabs.keep I (fN.refl S w)⟩,⟨I,fun _ h=>h,rfl,rfl,rfl,Nat.le_refl _,fun _ _=>rfl,fun _ h=>.inl h⟩⟩
 ·intro k r J;by_cases U:k=S.N
  ·subst U;rw[qZ]at J;injection J with J;subst J;refine⟨Nat.lt_succ_self _,by simp[Sg.addRow],Y,by simp,.inl ⟨[],⟨by simp,.inl ⟨A,rfl⟩⟩,by simp[bC],by simp⟩⟩
  ·have F:=E k r U J;exact(T.rows k r F).keep I (fN.refl S w) fun _ _=>rfl
 ·intro k r J g O;by_cases U:k=S.N
  ·subst U;rw[A]at O;simp[blk]at O
  ·have F:=E k r U J;rw[I.loc k (T.rows k r F).lt]at O;exact T.free k r F g O
 ·intro k k' r r' J F aa g O M;by_cases U:k=S.N
  ·subst U;rw[A]at O;simp[blk]at O
  ·have Z:=E k r U J;rw[I.loc k (T.rows k r Z).lt]at O;by_cases e1:k'=S.N
   ·subst e1;rw[A]at M;simp[blk]at M
   ·have X:=E k' r' e1 F;rw[I.loc k' (T.rows k' r' X).lt]at M;exact T.disj k k' r r' Z X aa g O M
def Sg.addRo(S:Sg)(g:Nat):Sg:={ S with ro:=fun k=>S.ro k\/k=g,fz:=fun k=>S.fz k\/k=g }
def Sg.le_addRo(S:Sg)(g:Nat):S.le (S.addRo g):=⟨fun _ h=>.inl h,Nat.le_refl _,fun _ _=>rfl,fun _ _=>rfl⟩
def St.newRo(F:St S w H){o:Obj}{w':World}(Y:w'.heap=w.heap.push o)(X:w'.os=w.os)(M:w'.tape=w.tape)(T:w'.output=w.output):
  St (S.addRo w.heap.size) w' H/\Grow S w (S.addRo w.heap.size) w':=by
 have E:∀k,k<w.heap.size->w'.heap[k]?=w.heap[k]?:=fun k A=>by rw[Y,Array.getElem?_push,if_neg (by omega)]
 have Z:w'.heap.size=w.heap.size+1:=by rw[Y];simp
 have J:=S.le_addRo w.heap.size;have I:fN S w w':=fun k A=>E k (F.fz_lt k (F.ro_fz k A))
 refine⟨⟨fun k A=>A.imp (F.ro_fz k) id,fun k A=>?_,fun k r A=>(F.rows k r A).keep J I fun g U=>E g ((F.rows k r A).block_lt U),fun k r A g U O=>?_,F.disj,F.tabs.keep J I⟩,
  ⟨J,fun _ h=>.inl h,X,M,T,by omega,fun k A=>E k (F.fz_lt k A),fun k A=>A.imp id (fun e O=>by have:=F.fz_lt k O;omega)⟩⟩
 ·rcases A with A|A
  ·have:=F.fz_lt k A;omega
  ·omega
 ·rcases O with O|O
  ·exact F.free k r A g U O
  ·have:=(F.rows k r A).block_lt U;omega
def RowOK.open{k:Nat}{r:Row}(h:RowOK S w k r){E:Option Addr}{T O:Nat}(F:S.loc k=.slice E T O)(A:r.es≠[]):∃g cap cur,S.loc k=.slice (some ⟨g,0,none⟩) r.es.length cap/\w.heap[g]?=some (.cells cur r.e (0,0))/\r.es.length<=cap/\cap<=maxLen/\cur.size=cap*r.sz /\
  bC S w r.es.flatten (cur.toList.take (r.es.length*r.sz))/\∀u∈cur.toList.take (r.es.length*r.sz),u.oneCell'=true:=by
 obtain⟨xs,X,I,h1⟩:=h.sl F;rcases X.2 with⟨_,hn⟩|⟨g,cap,cur,Y,_,h2,Z,J,M,U⟩
 ·exact absurd (List.eq_nil_of_length_eq_zero hn) A
 ·subst U;exact⟨g,cap,cur,Y,h2,Z,J,M,I,h1⟩
def yC:∀(es:List (List AV)) (i:Nat) (cs:List AV) {sz:Nat},(∀c∈es,c.length=sz)->i<es.length->cs.length=sz ->
  (es.set i cs).flatten=es.flatten.take (i*sz)++cs++es.flatten.drop (i*sz+sz)
 | [],_,_,_,_,h,_=>by simp at h
 | x::r,0,cs,sz,hl,_,A=>by have E:=hl x (by simp);simp[<-E]
 | x::r,i+1,cs,sz,hl,hi,A=>by
  have E:=hl x (by simp);have ih:=yC r i cs (fun c A=>hl c (by simp[A])) (by simpa using hi) A;simp only[List.set_cons_succ,List.flatten_cons,ih];have F:(i+1)*sz=x.length+i*sz:=by rw[E,Nat.add_mul];omega
  rw[F,Nat.add_assoc,List.take_append,List.drop_append];simp[List.take_of_length_le,List.drop_eq_nil_of_le,Nat.add_assoc]
def St.store(J:St S w H){k:Nat}{r:Row}(hk:H k=some r){i f:Nat}{cs:List AV}{l:List Value}(T:i<r.es.length)(hf:f+cs.length<=r.sz){ak:Option Addr}{n0 c0:Nat}(aj:S.loc k=.slice ak n0 c0)
   (hr:bC S w cs l) (h1:∀u∈l,u.oneCell'=true):
   ∃g n c w',S.loc k=.slice (some ⟨g,0,none⟩) n c/\(∀P:Program,(storeCells ⟨g,i*r.sz+f,none⟩ l).run P w=.ok () w') /\
     St S w' (aI H k (some { r with es:=r.es.set i (lV (r.es.getD i []) f cs) }))/\Grow S w S w':=by
 have O:=J.rows k r hk;have am:r.es≠[]:=fun e=>by rw[e]at T;simp at T
 obtain⟨g,cap,cur,F,hg,ae,aq,ar,ab,Y⟩:=O.open aj am;have ah:=fS _ _ hr;have ac:(i+1)*r.sz<=r.es.length*r.sz:=Nat.mul_le_mul_right _ T;have ai:r.es.length*r.sz<=cap*r.sz:=Nat.mul_le_mul_right _ ae;rw[Nat.add_mul,Nat.one_mul]at ac;have aa:∀P:Program,_:=fun P=>run_storeCells_at (P:=P) g (i*r.sz+f) r.e l 0 cur w hg (by rw[ah,ar];omega) h1
 simp only[Nat.add_zero]at aa;refine⟨g,_,cap,_,F,aa,?_,?_⟩
 . have M:∀j,j≠g->(w.setRow g (List.take (i*r.sz+f) cur.toList++l++List.drop (i*r.sz+f+l.length) cur.toList).toArray).heap[j]?=w.heap[j]?:=fun j A=>setRow_other w g j _ A
   have ao:¬S.fz g:=J.free k r hk g (by rw[F];rfl);have E:fN S w (w.setRow g (List.take (i*r.sz+f) cur.toList++l++List.drop (i*r.sz+f+l.length) cur.toList).toArray):=fun j A=>M j (fun e=>ao (e▸J.ro_fz j A))
   have Z:(r.es.getD i []).length=r.sz:=by simp only[List.getD,List.getElem?_eq_getElem T,Option.getD_some];exact O.len _ (List.getElem_mem T)
   have X:(lV (r.es.getD i []) f cs).length=r.sz:=by simp only[lV,List.length_append,List.length_take,List.length_drop,Z];omega
   have e2 : List.take (r.es.length * r.sz) (List.take (i * r.sz + f) cur.toList ++ l ++ List.drop (i * r.sz + f + l.length) cur.toList) =
       (cur.toList.take (r.es.length*r.sz)).take (i*r.sz+f)++l++(cur.toList.take (r.es.length*r.sz)).drop (i*r.sz+f+l.length):=by
     rw[List.take_take,Nat.min_eq_left (by omega),List.drop_take];rw[List.take_append,List.take_append];simp only[List.length_append,List.length_take,Array.length_toList];rw[Nat.min_eq_left (by omega:i*r.sz+f<=cur.size)];rw[List.take_of_length_le (l:=List.take (i*r.sz+f) cur.toList) (by simp;omega),List.take_of_length_le (l:=l) (by omega)]
   refine⟨J.ro_fz,fun j A=>by simpa using J.fz_lt j A,?_,?_,?_,J.tabs.keep S.le_refl E⟩
   . intro j r' A;by_cases e:j=k
     . subst e;rw[qZ]at A;injection A with A;subst A;refine⟨O.lt,O.sz,O.pos,?_,.inl ?_⟩
       . intro c hc;rcases List.mem_or_eq_of_mem_set hc with hc|rfl
         . exact O.len c hc
         . exact X
       . refine⟨(List.take (i*r.sz+f) cur.toList++l++List.drop (i*r.sz+f+l.length) cur.toList).take (r.es.length*r.sz),⟨?_,.inr ⟨g,cap,_,by simpa using F,Nat.zero_le _,setRow_heap w g cur _ _ _ hg,by simpa using ae,aq,?_,by simp⟩⟩,?_,?_⟩
         . simp only[List.length_set,List.length_take,List.length_append,List.length_drop,Array.length_toList];omega
         . simp only[List.size_toArray,List.length_append,List.length_take,List.length_drop,Array.length_toList];omega
         . have hx:=(dK (S.le_refl) E _ _ ab);have hy:=(dK (S.le_refl) E _ _ hr);have e1:(r.es.set i (lV (r.es.getD i []) f cs)).flatten=r.es.flatten.take (i*r.sz+f)++cs++r.es.flatten.drop (i*r.sz+f+l.length):=by
             rw[yC r.es i _ O.len T X];have aw:r.es.flatten.length=r.es.length*r.sz:=mJ _ O.len;have ag:r.es.getD i []=(r.es.flatten.drop (i*r.sz)).take r.sz:=by
               have h0:=yC r.es i (r.es.getD i []) O.len T Z;have hs:r.es.set i (r.es.getD i [])=r.es:=by simp only[List.getD,List.getElem?_eq_getElem T,Option.getD_some];exact List.set_getElem_self T
               rw[hs]at h0;have h3:(r.es.flatten.drop (i*r.sz)).take r.sz=((r.es.flatten.take (i*r.sz)++r.es.getD i []++r.es.flatten.drop (i*r.sz+r.sz)).drop (i*r.sz)).take r.sz:=by rw[<-h0]
               rw[h3,List.append_assoc,List.drop_append_of_le_length (by rw[List.length_take];omega)];rw[List.drop_eq_nil_of_le (by rw[List.length_take];omega),List.nil_append,List.take_append_of_le_length (by omega),List.take_of_length_le (by omega)]
             rw[ag,lV];have a1:List.take (i*r.sz+f) r.es.flatten=r.es.flatten.take (i*r.sz)++((r.es.flatten.drop (i*r.sz)).take r.sz).take f:=by rw[List.take_take,Nat.min_eq_left (by omega),List.take_add]
             have a2:r.es.flatten.drop (i*r.sz+f+l.length)=((r.es.flatten.drop (i*r.sz)).take r.sz).drop (f+cs.length)++r.es.flatten.drop (i*r.sz+r.sz):=by
               rw[List.drop_take,List.drop_drop,<-ah,<-Nat.add_assoc];have:List.drop (i*r.sz+r.sz) r.es.flatten=(List.drop (i*r.sz+f+l.length) r.es.flatten).drop (r.sz-(f+l.length)):=by rw[List.drop_drop];congr 1;omega
               rw[this,List.take_append_drop]
             rw[a1,a2];simp only[List.append_assoc]
           rw[e1];rw[e2];exact cR _ _ _ _ (cR _ _ _ _ (rH _ _ _ hx) hy) (rK _ _ _ hx)
         . intro u U;rw[e2]at U;simp only[List.mem_append]at U;rcases U with(U|U)|U
           . exact Y u (List.mem_of_mem_take U)
           . exact h1 u U
           . exact Y u (List.mem_of_mem_drop U)
     . rw[aD _ _ _ _ e]at A;exact(J.rows j r' A).keep S.le_refl E fun g' I=>M g' (fun e'=>J.disj j k r' r A hk e g' I (by rw[F,e'];rfl))
   . intro j r' A g' I;by_cases e:j=k
     . subst e;exact J.free j r hk g' I
     . rw[aD _ _ _ _ e]at A;exact J.free j r' A g' I
   . intro j j' r1 r2 A au af g' I ap;have p:∀j r',aI H k (some { r with es:=r.es.set i (lV (r.es.getD i []) f cs) }) j=some r'->∃al,H j=some al:=fun j r' A=>by
       by_cases e:j=k
       . subst e;exact⟨r,hk⟩
       . rw[aD _ _ _ _ e]at A;exact⟨_,A⟩
     obtain⟨q1,av⟩:=p j r1 A;obtain⟨q2,an⟩:=p j' r2 au;exact J.disj j j' q1 q2 av an af g' I ap
 . refine⟨S.le_refl,fun _ h=>h,rfl,rfl,rfl,by simp,fun j A=>setRow_other w g j _ (fun e=>J.free k r hk g (by rw[F];rfl) (e▸A)),fun _ h=>.inl h⟩
end
end Go.Aw
end
section
namespace Go.Aw
open Go.RowKit
section
variable{P:Program}{S S':Sg}{w w':World}{H H':aH}
def sQ(S:Sg)(w:World)(u:Value)(news:List (List AV)):Prop:=
 ∃ad c l,u=.slice ad news.length c/\bC S w news.flatten l/\(∀x∈l,x.oneCell'=true) /\
   (news=[]\/∃b o,ad=some ⟨b,o,none⟩/\∀j x,l[j]?=some x->w.cell? ⟨b,o+j,none⟩=some x)
def Dc{es:List (List AV)}{u:Value}(h:rep S w (.sl es) u):sQ S w u es:=by
 simp only[rep]at h;obtain⟨ad,n,c,rfl,rfl,_,_,E⟩:=h;rcases E with rfl|⟨b,o,sz,rfl,T,M,A⟩
 ·exact⟨ad,c,[],rfl,by simp[bC],by simp,.inl rfl⟩
 ·obtain⟨l,O,F,J,I⟩:=lQ _ _ (wA es o A);exact⟨_,c,l,rfl,F,J,.inr ⟨b,o,rfl,I⟩⟩
def Ds{k:Nat}{r:Row}(h:RowOK S w k r){J:Option Addr}{U O:Nat}(M:S.loc k=.slice J U O):sQ S w (S.loc k) r.es:=by
 obtain⟨xs,E,I,h1⟩:=h.sl M;rcases E.2 with⟨A,F⟩|⟨g,cap,cur,A,_⟩
 ·have T:=List.eq_nil_of_length_eq_zero F;have Y:xs=[]:=List.eq_nil_of_length_eq_zero (by rw[E.1,F];simp);exact⟨none,0,xs,by rw[A,F],I,h1,.inl T⟩
 ·refine⟨some ⟨g,0,none⟩,cap,xs,A,I,h1,.inr ⟨g,0,rfl,fun j x X=>?_⟩⟩;have:=E.cells (g:=g) (by rw[A];rfl) j x X
  rwa [Addr.add_lit]at this
def zH{k a b:Nat}{r:Row}{u:Value}(Z:RowOK S w k r)(hu:rep S w (.oz k a b) u):sQ S w u ((r.es.take b).drop a)/\b<=r.es.length/\a<=b:=by
 simp only[rep]at hu;obtain⟨_,ad,n,c,U,cc,A,rfl,aa,F,M,_,ab,_⟩:=hu;obtain⟨xs,ho,hr,h1⟩:=Z.sl A;have hn:n=r.es.length:=by
  rcases ho.2 with⟨O,hn⟩|⟨g,cap,cur,O,_⟩
  ·rw[A]at O;injection O with _ X _;omega
  ·rw[A]at O;injection O
 subst hn;refine⟨?_,F,aa⟩;have E:((r.es.take b).drop a).length=b-a:=by simp;omega
 rcases Nat.lt_or_ge a b with ae|ac
 ·obtain⟨g,rfl,rfl⟩:=M (by omega);have Y:r.es≠[]:=fun e=>by rw[e]at F;simp at F;omega
  obtain⟨g',n',c',I,T,_⟩:=Z.els A Y;rw[A]at I;injection I with J _ _;injection J with J;injection J with J;subst J;have X:=BE _ 0 a (xB r.es 0 b T);rw[Nat.zero_add,Z.sz]at X;obtain⟨l,q1,q2,q3,q4⟩:=lQ _ _ (wA _ _ X);exact⟨_,cc,l,by rw[E],q2,q3,.inr ⟨g,a*S.sz k,rfl,q4⟩⟩
 ·have he:(r.es.take b).drop a=[]:=List.eq_nil_of_length_eq_zero (by omega);exact⟨U,cc,[],by rw[E],by rw[he];simp[bC],by simp,.inl he⟩
def vS:∀(es:List (List AV)) (a:Nat) {sz:Nat},(∀c∈es,c.length=sz)->(es.take a).flatten=es.flatten.take (a*sz)
 | [],_,_,_=>by simp
 | x::r,0,_,_=>by simp
 | x::r,a+1,sz,hl=>by
  have A:=hl x (by simp);rw[List.take_succ_cons,List.flatten_cons,List.flatten_cons,vS r a (fun c E=>hl c (by simp[E])),Nat.add_mul,Nat.one_mul,List.take_append,A];rw[List.take_of_length_le (l:=x) (by omega)]
  congr 2
  omega
def wU:∀(es:List (List AV)) (a:Nat) {sz:Nat},(∀c∈es,c.length=sz)->(es.drop a).flatten=es.flatten.drop (a*sz)
 | [],_,_,_=>by simp
 | x::r,0,_,_=>by simp
 | x::r,a+1,sz,hl=>by
  have A:=hl x (by simp);rw[List.drop_succ_cons,List.flatten_cons,wU r a (fun c E=>hl c (by simp[E])),Nat.add_mul,Nat.one_mul,List.drop_append,A];rw[List.drop_eq_nil_of_le (as:=x) (by omega),List.nil_append]
  congr 1
  omega
def St.storeE(J:St S w H){k:Nat}{r:Row}(hk:H k=some r){a:Nat}{news:List (List AV)}{l:List Value}(Y:∀c∈news,c.length=r.sz)(ha:a+news.length<=r.es.length)(aa:r.es≠[]){ap:Option Addr}{n0 c0:Nat}(ao:S.loc k=.slice ap n0 c0)
   (hr:bC S w news.flatten l) (h1:∀u∈l,u.oneCell'=true):
   ∃g n c w',S.loc k=.slice (some ⟨g,0,none⟩) n c/\(∀P:Program,(storeCells ⟨g,a*r.sz,none⟩ l).run P w=.ok () w') /\
     St S w' (aI H k (some { r with es:=r.es.take a++news++r.es.drop (a+news.length) }))/\Grow S w S w':=by
 have X:=J.rows k r hk;obtain⟨g,cap,cur,F,hg,af,am,an,ac,Z⟩:=X.open ao aa;have ag:l.length=news.length*r.sz:=by rw[fS _ _ hr,mJ news Y]
 have ae:(a+news.length)*r.sz<=r.es.length*r.sz:=Nat.mul_le_mul_right _ ha;have aj:r.es.length*r.sz<=cap*r.sz:=Nat.mul_le_mul_right _ af;rw[Nat.add_mul]at ae;have ab:∀P:Program,_:=fun P=>run_storeCells_at (P:=P) g (a*r.sz) r.e l 0 cur w hg (by rw[ag,an];omega) h1
 simp only[Nat.add_zero]at ab;refine⟨g,_,cap,_,F,ab,?_,?_⟩
 . have M:∀j,j≠g->(w.setRow g (List.take (a*r.sz) cur.toList++l++List.drop (a*r.sz+l.length) cur.toList).toArray).heap[j]?=w.heap[j]?:=fun j A=>setRow_other w g j _ A
   have ak:¬S.fz g:=J.free k r hk g (by rw[F];rfl);have E:fN S w (w.setRow g (List.take (a*r.sz) cur.toList++l++List.drop (a*r.sz+l.length) cur.toList).toArray):=fun j A=>M j (fun e=>ak (e▸J.ro_fz j A))
   have T:(r.es.take a++news++r.es.drop (a+news.length)).length=r.es.length:=by simp;omega
   have e2 : List.take (r.es.length * r.sz) (List.take (a * r.sz) cur.toList ++ l ++ List.drop (a * r.sz + l.length) cur.toList) =
       (cur.toList.take (r.es.length*r.sz)).take (a*r.sz)++l++(cur.toList.take (r.es.length*r.sz)).drop (a*r.sz+l.length):=by
     rw[List.take_take,Nat.min_eq_left (by omega),List.drop_take];rw[List.take_append,List.take_append];simp only[List.length_append,List.length_take,Array.length_toList];rw[Nat.min_eq_left (by omega:a*r.sz<=cur.size)];rw[List.take_of_length_le (l:=List.take (a*r.sz) cur.toList) (by simp;omega),List.take_of_length_le (l:=l) (by omega)]
   refine⟨J.ro_fz,fun j A=>by simpa using J.fz_lt j A,?_,?_,?_,J.tabs.keep S.le_refl E⟩
   . intro j r' A;by_cases e:j=k
     . subst e;rw[qZ]at A;injection A with A;subst A;refine⟨X.lt,X.sz,X.pos,?_,.inl ?_⟩
       . intro c O;rcases List.mem_append.1 O with O|O
         . rcases List.mem_append.1 O with O|O
           . exact X.len c (List.mem_of_mem_take O)
           . exact Y c O
         . exact X.len c (List.mem_of_mem_drop O)
       . refine⟨(List.take (a*r.sz) cur.toList++l++List.drop (a*r.sz+l.length) cur.toList).take (r.es.length*r.sz),⟨?_,.inr ⟨g,cap,_,by rw[T];exact F,Nat.zero_le _,setRow_heap w g cur _ _ _ hg,by rw[T];exact af,am,?_,by rw[T]⟩⟩,?_,?_⟩
         . rw[T];simp only[List.length_take,List.length_append,List.length_drop,Array.length_toList];omega
         . simp only[List.size_toArray,List.length_append,List.length_take,List.length_drop,Array.length_toList];omega
         . have hx:=(dK (S.le_refl) E _ _ ac);have hy:=(dK (S.le_refl) E _ _ hr);have e1:(r.es.take a++news++r.es.drop (a+news.length)).flatten=r.es.flatten.take (a*r.sz)++news.flatten++r.es.flatten.drop (a*r.sz+l.length):=by rw[List.flatten_append,List.flatten_append,vS _ _ X.len,wU _ _ X.len,Nat.add_mul,ag]
           rw[e1,e2];exact cR _ _ _ _ (cR _ _ _ _ (rH _ _ _ hx) hy) (rK _ _ _ hx)
         . intro u U;rw[e2]at U;simp only[List.mem_append]at U;rcases U with(U|U)|U
           . exact Z u (List.mem_of_mem_take U)
           . exact h1 u U
           . exact Z u (List.mem_of_mem_drop U)
     . rw[aD _ _ _ _ e]at A;exact(J.rows j r' A).keep S.le_refl E fun g' I=>M g' (fun e'=>J.disj j k r' r A hk e g' I (by rw[F,e'];rfl))
   . intro j r' A g' I;by_cases e:j=k
     . subst e;exact J.free j r hk g' I
     . rw[aD _ _ _ _ e]at A;exact J.free j r' A g' I
   . intro j j' r1 r2 A aq ah g' I al;have p:∀j r',aI H k (some { r with es:=r.es.take a++news++r.es.drop (a+news.length) }) j=some r'->∃ar,H j=some ar:=fun j r' A=>by
       by_cases e:j=k
       . subst e;exact⟨r,hk⟩
       . rw[aD _ _ _ _ e]at A;exact⟨_,A⟩
     obtain⟨q1,au⟩:=p j r1 A;obtain⟨q2,ai⟩:=p j' r2 aq;exact J.disj j j' q1 q2 au ai ah g' I al
 . refine⟨S.le_refl,fun _ h=>h,rfl,rfl,rfl,by simp,fun j A=>setRow_other w g j _ (fun e=>J.free k r hk g (by rw[F];rfl) (e▸A)),fun _ h=>.inl h⟩
def TP{k:Nat}{r:Row}(A:H k=some r):aI H k (some r)=H:=by
 funext j;by_cases e:j=k
 ·subst e;rw[aB,A]
 ·rw[aD _ _ _ _ e]
def St.copy(hS:St S w H){k:Nat}{r:Row}(hk:H k=some r){t e sz M:Nat}{t' ty:TypeId}(he:bT P t=some (e,sz,M))(ag:r.sz=sz){a n:Nat}(Y:a+n<=r.es.length){x u:Value}{news:List (List AV)}(hu:sQ S w u news)(Z:cH sz news)
  (hx:∃ad cc,x=.slice ad n cc/\(0<n->∃g n' c',S.loc k=.slice (some ⟨g,0,none⟩) n' c'/\ad=some ⟨g,a*r.sz,none⟩)):
  ∃w',(Builtin.copy_ #[t,t'] ty #[x,u]).run P w=.ok (goInt (min news.length n:Nat)) w'/\St S w' (aI H k (some { r with es:=r.es.take a++news.take (min news.length n)++r.es.drop (a+min news.length n) }))/\Grow S w S w':=by
 obtain⟨ar,z,U,hi,T,ap,ao,an,hz,aq⟩:=fB he;obtain⟨ad,cc,rfl,ah⟩:=hx;obtain⟨sa,sc,l,rfl,hl,ae,F⟩:=hu;have A:=gL.1 Z;rcases Nat.eq_zero_or_pos (min news.length n)with h0|h0
 ·refine⟨w,?_,?_,Grow.refl S w⟩
  ·have af:Nat.min news.length n=0:=h0;have ai:∀a:Addr,(loadCells a 0).run P w=.ok #[] w:=fun a=>by simpa using run_loadCells_list (P:=P) w a [] (by simp)
   rw[h0];cases ad <;> cases sa <;> simp[Builtin.copy_,run_underlying U,Builtin.lenOf,Builtin.firstCells,sizeOf,typeInfo,hi,af,ai,storeCells]
  ·rw[h0];have:({ r with es:=r.es.take a++news.take 0++r.es.drop (a+0) }:Row)=r:=by simp
   rw[this,TP hk];exact hS
 ·have am:0<n:=by omega
  obtain⟨g,n',c',J,rfl⟩:=ah am;have O:r.es≠[]:=fun e=>by rw[e]at Y;simp at Y;omega
  have hm:(news.take (min news.length n)).length=min news.length n:=by simp
  have aj:(news.take (min news.length n)).flatten=news.flatten.take (min news.length n*sz):=vS _ _ A;have ac:bC S w (news.take (min news.length n)).flatten (l.take (min news.length n*sz)):=by rw[aj];exact rH _ _ _ hl
  obtain⟨g',n2,c2,w',E,ab,q1,q2⟩:=hS.storeE hk (a:=a) (news:=news.take (min news.length n)) (l:=l.take (min news.length n*sz)) (fun c hc=>by rw[ag];exact A c (List.mem_of_mem_take hc)) (by rw[hm];omega) O J ac (fun u hu=>ae u (List.mem_of_mem_take hu));rw[J]at E;injection E with i1 _ _;injection i1 with i1;injection i1 with i1;subst i1;rw[hm]at q1;refine⟨w',?_,q1,q2⟩;rcases F with F|⟨b,o,rfl,I⟩
  ·rw[F]at h0;simp at h0
  ·have al:l.length=news.length*sz:=by rw[fS _ _ hl,mJ news A]
   have ak:(l.take (min news.length n*sz)).length=min news.length n*sz:=by rw[List.length_take,al];exact Nat.min_eq_left (Nat.mul_le_mul_right _ (Nat.min_le_left _ _))
   have X:=run_loadCells_list (P:=P) w ⟨b,o,none⟩ (l.take (min news.length n*sz)) (fun j v hj=>by
    rw[Addr.add_lit];refine I j v ?_;rw[List.getElem?_take]at hj;split at hj
    ·exact hj
    ·simp at hj)
   rw[ak]at X;have aa:Nat.min news.length n=min news.length n:=rfl;simp[Builtin.copy_,run_underlying U,Builtin.lenOf,Builtin.firstCells,sizeOf,typeInfo,hi,T,aa,X,ab P]
def yY(z:Array Value)(A:0<z.size):∀m,(Builtin.zeroCells z m).toList=(List.replicate m z.toList).flatten
 | 0=>by simp[Builtin.zeroCells]
 | m+1=>by
  have ih:=yY z A m;rw[show List.replicate (m+1) z.toList=List.replicate m z.toList++[z.toList]from List.replicate_succ',List.flatten_append,<-ih];simp only[Builtin.zeroCells,Array.toList_map,Array.toList_range,Nat.add_mul,Nat.one_mul,List.flatten_cons,List.flatten_nil,List.append_nil];rw[List.range_add,List.map_append]
  congr 1
  apply List.ext_getElem
  ·simp
  ·intro i h1 E;simp only[List.length_map,List.length_range]at h1;simp[Nat.add_comm (m*z.size),Nat.add_mul_mod_self_right,Nat.mod_eq_of_lt h1,h1]
def St.clear(hS:St S w H){k:Nat}{r:Row}(hk:H k=some r){t e sz J:Nat}{ty:TypeId}{zs:List AV}(he:bT P t=some (e,sz,J))(ab:cV P e=some zs)(ai:r.sz=sz){a n:Nat}(U:a+n<=r.es.length){x:Value}
  (hx:∃ad cc,x=.slice ad n cc/\(0<n->∃g n' c',S.loc k=.slice (some ⟨g,0,none⟩) n' c'/\ad=some ⟨g,a*r.sz,none⟩)):
  ∃w',(Builtin.clear_ #[t] ty #[x]).run P w=.ok (.tuple #[]) w'/\St S w' (aI H k (some { r with es:=r.es.take a++List.replicate n zs++r.es.drop (a+n) }))/\Grow S w S w':=by
 obtain⟨ah,z,M,hi,ae,ak,ag,ac,hz,af⟩:=fB he;obtain⟨i',v,E,F,rfl,aj,al,h1⟩:=mT ab;rw[hi]at E;injection E with E;subst E;rw[hz]at F;injection F with F;subst F;obtain⟨ad,cc,rfl,aa⟩:=hx;rcases Nat.eq_zero_or_pos n with h0|h0
 ·subst h0;refine⟨w,?_,?_,Grow.refl S w⟩
  ·cases ad <;> simp[Builtin.clear_,run_underlying M]
  ·have:({ r with es:=r.es.take a++List.replicate 0 (z.cells.toList.map pQ)++r.es.drop (a+0) }:Row)=r:=by simp
   rw[this,TP hk];exact hS
 ·obtain⟨g,n',c',I,rfl⟩:=aa h0;have O:r.es≠[]:=fun e=>by rw[e]at U;simp at U;omega
  have T:∀m,bC S w (List.replicate m (z.cells.toList.map pQ)).flatten (List.replicate m z.cells.toList).flatten:=by
   intro m;induction m with
   | zero=>simp[bC]
   | succ m ih=>simp only[List.replicate_succ,List.flatten_cons];exact cR _ _ _ _ (lS _) ih
  obtain⟨g',n2,c2,w',A,Z,q1,q2⟩:=hS.storeE hk (a:=a) (news:=List.replicate n (z.cells.toList.map pQ)) (l:=(List.replicate n z.cells.toList).flatten) (fun c hc=>by rw[List.eq_of_mem_replicate hc];simp;omega) (by rw[List.length_replicate];omega) O I (T n) (fun u Y=>by obtain⟨l,hl,Y⟩:=List.mem_flatten.1 Y;rw[List.eq_of_mem_replicate hl]at Y;exact h1 u Y);rw[I]at A;injection A with X _ _;injection X with X;injection X with X;subst X;rw[List.length_replicate]at q1;refine⟨w',?_,q1,q2⟩;obtain⟨m,rfl⟩:∃m,n=m+1:=⟨n-1,by omega⟩;simp[Builtin.clear_,run_underlying M,zeroValue,typeInfo,hi,hz,yY z.cells (by omega) (m+1),Z P]
def DN{t ty e:TypeId}{i:TypeInfo}{size n c:Nat}{v:Value}{xs:List Value}(I:P.underlying t=some (.slice e))(F:P.info? e=some i)(A:w.ownsRow 0 e size v n xs):
  (Builtin.append_ #[t,t] ty #[v,.slice none 0 c]).run P w=.ok v w:=by
 rcases A.2 with⟨rfl,rfl⟩|⟨g,cap,cur,rfl,_,_,E,_⟩
 ·simp[Builtin.append_,run_underlying I,sizeOf,typeInfo,F,Builtin.lenOf,Builtin.firstCells]
 ·simp[Builtin.append_,run_underlying I,sizeOf,typeInfo,F,Builtin.lenOf,Builtin.firstCells,E,storeCells]
def rN{t ty e:TypeId}{i:TypeInfo}{n c c2:Nat}{b ad:Option Addr}(I:P.underlying t=some (.slice e))(F:P.info? e=some i)(A:n<=c):
  (Builtin.append_ #[t,t] ty #[.slice b n c,.slice ad 0 c2]).run P w=.ok (.slice b n c) w:=by
 have E:(Builtin.firstCells i.size 0 (.slice ad 0 c2)).run P w=.ok #[] w:=by
  cases ad with
  | none=>rfl
  | some a=>exact run_firstCells_some (P:=P) w i.size 0 a 0 c2 [] (by simp) (by simp)
 cases b <;> simp[Builtin.append_,run_underlying I,sizeOf,typeInfo,F,Builtin.lenOf,E,A,storeCells]
def St.append(O:St S w H){k:Nat}{r:Row}(hk:H k=some r){aw:Option Addr}{n0 c0:Nat}(ao:S.loc k=.slice aw n0 c0){t ty:TypeId}{U:Nat}(he:bT P t=some (r.e,r.sz,U)){news:List (List AV)}{u:Value}(hu:sQ S w u news)
   (au:cH r.sz news) (hb:(r.es.length+news.length)*U<=140737488355328):
   ∃F w',(Builtin.append_ #[t,t] ty #[S.loc k,u]).run P w=.ok F w'/\(∃a n c,F=.slice a n c) /\
     St (S.addRow F r.sz) w' (aI (aI H k none) S.N (some ⟨r.e,r.sz,r.es++news⟩))/\Grow S w (S.addRow F r.sz) w':=by
 have hR:=O.rows k r hk;obtain⟨ay,z,aq,hi,a0,av,ai,al,hz,ax⟩:=fB he;obtain⟨xs,ho,hr,h1⟩:=hR.sl ao;obtain⟨ad,c,l,rfl,hl,an,ah⟩:=hu;have ac:=gL.1 au;have ak:l.length=news.length*r.sz:=by rw[fS _ _ hl,mJ news ac]
 have a6:r.es.length+news.length<=140737488355328:=Nat.le_trans (Nat.le_mul_of_pos_right _ al) hb;have a4 : ∃ F w', (Builtin.append_ #[t, t] ty #[S.loc k, .slice ad news.length c]).run P w = .ok F w' /\ w'.ownsRow 0 r.e r.sz F (r.es.length + news.length) (xs ++ l) /\ w.grownBy w' (blk (S.loc k)) /\
     (blk F=blk (S.loc k)\/blk F=some w.heap.size):=by
   cases ad with
   | none=>
     have hn:news=[]:=by
       rcases ah with h|⟨b,o,h,_⟩
       . exact h
       . simp at h
     subst hn;have aj:l=[]:=List.eq_nil_of_length_eq_zero (by rw[ak];simp);subst aj;exact⟨S.loc k,w,DN aq hi ho,by simpa using ho,World.grownBy.refl w _,.inl rfl⟩
   | some a=>
     have ag:∀j x,l[j]?=some x->w.cell? (a.add j)=some x:=by
       rcases ah with h|⟨b,o,h,hc⟩
       . subst h;have aj:l=[]:=List.eq_nil_of_length_eq_zero (by rw[ak];simp);subst aj;simp
       . injection h with h;subst h;intro j x E;rw[Addr.add_lit];exact hc j x E
     obtain⟨F,w',q1,q2,q3,_,q5⟩:=run_append_own_at (P:=P) w 0 t ty r.e ay z r.sz U aq hi hz a0 av ax ai (S.loc k) r.es.length xs ho a news.length c l ak ag an
       (by simp only[maxLen];omega) hb (Nat.zero_le _)
     have ar:blk (S.loc k)=(S.loc k).ownBlock:=by rw[ao];exact agA _ _ _
     have az:blk F=F.ownBlock:=by rcases q2.2 with⟨h,_⟩|⟨_,_,_,h,_⟩ <;> (rw[h];rfl)
     exact⟨F,w',q1,q2,by rw[ar];exact q3,by rw[ar,az];exact q5⟩
 obtain⟨F,w',q1,q2,q3,q4⟩:=a4;have ab:=O.free k r hk;have aa:∀j,S.fz j->w'.heap[j]?=w.heap[j]?:=fun j E=>q3.block j (O.fz_lt j E) (fun e=>ab j e.symm E)
 have J:fN S w w':=O.kept aa;have I:=S.le_addRow F r.sz;have M:(S.addRow F r.sz).loc S.N=F:=by simp[Sg.addRow]
 have a5:∀g,blk F=some g->¬S.fz g:=fun g A hf=>by
   rcases q4 with e|e
   . exact ab g (e▸A) hf
   . rw[e]at A;injection A with A;subst A;exact Nat.lt_irrefl _ (O.fz_lt _ hf)
 have T:∀j r',j≠S.N->aI (aI H k none) S.N (some ⟨r.e,r.sz,r.es++news⟩) j=some r'->j≠k/\H j=some r':=fun j r' E h=>by
   rw[aD _ _ _ _ E]at h;by_cases e:j=k
   . subst e;rw[aB]at h;simp at h
   . rw[aD _ _ _ _ e]at h;exact⟨e,h⟩
 have af:∀j r',j≠k->H j=some r'->∀g,blk (S.loc j)=some g->some g≠blk (S.loc k)/\g<w.heap.size:=fun j r' E X g A=>⟨fun e=>O.disj j k r' r X hk E g A e.symm,(O.rows j r' X).block_lt A⟩
 have am:∀j r',j≠k->H j=some r'->∀g,blk (S.loc j)=some g->blk F≠some g:=fun j r' E X g A e=>by
   obtain⟨e1,Y⟩:=af j r' E X g A;rcases q4 with e'|e'
   . exact e1 (by rw[<-e',e])
   . rw[e']at e;injection e with e;omega
 refine⟨F,w',q1,?_,⟨O.ro_fz,fun j E=>Nat.lt_of_lt_of_le (O.fz_lt j E) q3.size,?_,?_,?_,O.tabs.keep I J⟩,⟨I,fun _ h=>h,q3.os,q3.tape,q3.output,q3.size,aa,fun _ h=>.inl h⟩⟩
 . rcases q2.2 with⟨h,_⟩|⟨g,cap,cur,h,_⟩
   . exact⟨_,_,_,h⟩
   . exact⟨_,_,_,h⟩
 . intro j r' E;by_cases e:j=S.N
   . subst e;rw[aB]at E;injection E with E;subst E;refine⟨Nat.lt_succ_self _,by simp[Sg.addRow],ai,?_,.inl ⟨xs++l,?_,?_,?_⟩⟩
     . intro cs ae;rcases List.mem_append.1 ae with ae|ae
       . exact hR.len cs ae
       . exact ac cs ae
     . rw[M,List.length_append];exact q2
     . rw[List.flatten_append];exact cR _ _ _ _ (dK I J _ _ hr) (dK I J _ _ hl)
     . intro x hx;rcases List.mem_append.1 hx with hx|hx
       . exact h1 x hx
       . exact an x hx
   . obtain⟨e1,Y⟩:=T j r' e E;exact(O.rows j r' Y).keep I J fun g A=>q3.block g (af j r' e1 Y g A).2 (af j r' e1 Y g A).1
 . intro j r' E g A;by_cases e:j=S.N
   . subst e;rw[M]at A;exact a5 g A
   . obtain⟨e1,Y⟩:=T j r' e E;rw[I.loc j (O.rows j r' Y).lt]at A;exact O.free j r' Y g A
 . intro j j' r1 r2 E X ap g A Z;by_cases e:j=S.N
   . subst e;rw[M]at A;obtain⟨e1,Y⟩:=T j' r2 (Ne.symm ap) X;rw[I.loc j' (O.rows j' r2 Y).lt]at Z;exact am j' r2 e1 Y g Z A
   . obtain⟨e1,Y⟩:=T j r1 e E;rw[I.loc j (O.rows j r1 Y).lt]at A;by_cases e':j'=S.N
     . subst e';rw[M]at Z;exact am j r1 e1 Y g A Z
     . obtain⟨e3,e4⟩:=T j' r2 e' X;rw[I.loc j' (O.rows j' r2 e4).lt]at Z;exact O.disj j j' r1 r2 Y e4 ap g A Z
def Kp{es:List (List AV)}{ad:Option Addr}{n:Nat}(h:rep S w (.cl es) (.slice ad n n)){sz:Nat}(O:cH sz es):
  ∃l,l.length=es.length*sz/\bC S w es.flatten l/\(∀x∈l,x.oneCell'=true)/\n=es.length/\n<=maxLen/\(es=[]\/∃b o,ad=some ⟨b,o,none⟩/\∀j x,l[j]?=some x->w.cell? ⟨b,o+j,none⟩=some x):=by
 simp only[rep]at h;obtain⟨T,Y,e,rfl,J,M⟩:=h;injection e with F E I;subst F E;rcases M with rfl|⟨b,o,U,rfl,hb,Z,A⟩
 ·exact⟨[],by simp,by simp[bC],by simp,rfl,J,.inl rfl⟩
 ·obtain⟨l,F,E,I,X⟩:=lQ _ _ (wA es o A);refine⟨l,?_,E,I,rfl,J,.inr ⟨b,o,rfl,X⟩⟩;rw[fS _ _ E,mJ es (gL.1 O)]
def We{g:Nat}{cur:Array Value}{e:TypeId}{j:Nat}(h:w.heap[g]?=some (.cells cur e (0,0)))(A:j<cur.size):(w.cell? ⟨g,j,none⟩).isSome=true:=by simp[World.cell?,h,A]
def Mz{g:Nat}{cur:Array Value}{e:TypeId}{j:Nat}(h:w.heap[g]?=some (.cells cur e (0,0))):w.frozen? ⟨g,j,none⟩=false:=by simp[World.frozen?,h]
def St.drop'{H':aH}(h:St S w H)(E:∀k r,H' k=some r->H k=some r):St S w H':=
 ⟨h.ro_fz,h.fz_lt,fun k r A=>h.rows k r (E k r A),fun k r A=>h.free k r (E k r A),fun k k' r r' A F=>h.disj k k' r r' (E k r A) (E k' r' F),h.tabs⟩
def St.newOwned(I:St S w H){e:TypeId}{sz:Nat}{es':List (List AV)}{vals:List Value}{v':Value}{w':World}(ab:0<sz)(ac:∀cs∈es',cs.length=sz)(ae:0<es'.length)
  (q2:w'.ownsRow w.heap.size e sz v' es'.length vals) (q3:w.grownBy w' none) (hr:bC S w es'.flatten vals) (h1:∀x∈vals,x.oneCell'=true):
  (∃a n c,v'=.slice a n c)/\St (S.addRow v' sz) w' (aI H S.N (some ⟨e,sz,es'⟩))/\Grow S w (S.addRow v' sz) w'/\∃g cap,v'=.slice (some ⟨g,0,none⟩) es'.length cap/\es'.length<=cap:=by
 obtain⟨g,cap,cur,hv,hg0,hg,hnc,hcm,hcs,htk⟩:∃g cap cur,v'=.slice (some ⟨g,0,none⟩) es'.length cap/\w.heap.size<=g/\w'.heap[g]?=some (.cells cur e (0,0))/\es'.length<=cap/\cap<=maxLen/\cur.size=cap*sz/\cur.toList.take (es'.length*sz)=vals:=by
  rcases q2.2 with⟨_,h⟩|⟨g,cap,cur,h1,h2,h3,h4,h5,h6,h7⟩
  ·omega
  ·exact⟨g,cap,cur,h1,h2,h3,h4,h5,h6,h7⟩
 subst hv;have U:∀k,k<w.heap.size->w'.heap[k]?=w.heap[k]?:=fun k F=>q3.block k F (by simp)
 have X:fN S w w':=fun k F=>U k (I.fz_lt k (I.ro_fz k F))
 have J:=S.le_addRow (.slice (some ⟨g,0,none⟩) es'.length cap) sz;have E:(S.addRow (.slice (some ⟨g,0,none⟩) es'.length cap) sz).loc S.N=.slice (some ⟨g,0,none⟩) es'.length cap:=by simp[Sg.addRow]
 have O:∀k r,k≠S.N->aI H S.N (some ⟨e,sz,es'⟩) k=some r->H k=some r:=fun k r F h=>by rwa [aD _ _ _ _ F]at h
 refine⟨⟨_,_,_,rfl⟩,⟨I.ro_fz,fun k F=>Nat.lt_of_lt_of_le (I.fz_lt k F) q3.size,?_,?_,?_,I.tabs.keep J X⟩,⟨J,fun _ h=>h,q3.os,q3.tape,q3.output,q3.size,fun k F=>U k (I.fz_lt k F),fun _ h=>.inl h⟩,g,cap,rfl,hnc⟩
 ·intro k r F;by_cases e0:k=S.N
  ·subst e0;rw[aB]at F;injection F with F;subst F;refine⟨Nat.lt_succ_self _,by simp[Sg.addRow],ab,ac,.inl ⟨vals,?_,dK J X _ _ hr,h1⟩⟩;rw[E];exact⟨q2.1,.inr ⟨g,cap,cur,rfl,Nat.zero_le _,hg,hnc,hcm,hcs,htk⟩⟩
  ·have M:=O k r e0 F;exact(I.rows k r M).keep J X fun g' A=>U g' ((I.rows k r M).block_lt A)
 ·intro k r F g' A;by_cases e0:k=S.N
  ·subst e0;rw[E]at A;simp only[blk,Option.some.injEq]at A;subst A;exact fun h=>by have:=I.fz_lt _ h;omega
  ·have M:=O k r e0 F;rw[J.loc k (I.rows k r M).lt]at A;exact I.free k r M g' A
 ·intro k k' r r' F M Z g' A T;by_cases e0:k=S.N
  ·subst e0;rw[E]at A;simp only[blk,Option.some.injEq]at A;subst A;have Y:=O k' r' (Ne.symm Z) M;rw[J.loc k' (I.rows k' r' Y).lt]at T;have:=(I.rows k' r' Y).block_lt T;omega
  ·have Y:=O k r e0 F;rw[J.loc k (I.rows k r Y).lt]at A;by_cases e1:k'=S.N
   ·subst e1;rw[E]at T;simp only[blk,Option.some.injEq]at T;subst T;have:=(I.rows k r Y).block_lt A;omega
   ·have aa:=O k' r' e1 M;rw[J.loc k' (I.rows k' r' aa).lt]at T;exact I.disj k k' r r' Y aa Z g' A T
def St.appendNew(hS:St S w H){es:List (List AV)}{us:Value}(Y:rep S w (.cl es) us){t ty e:TypeId}{sz A:Nat}(he:bT P t=some (e,sz,A)){news:List (List AV)}{u:Value}(hu:sQ S w u news)(ac:news≠[])
   (al:cH sz es) (am:cH sz news) (hb:(es.length+news.length)*A<=140737488355328):
   ∃M w',(Builtin.append_ #[t,t] ty #[us,u]).run P w=.ok M w'/\(∃a n c,M=.slice a n c) /\
     St (S.addRow M sz) w' (aI H S.N (some ⟨e,sz,es++news⟩))/\Grow S w (S.addRow M sz) w':=by
 obtain⟨af,z,ag,hi,ah,aa,J,X,hz,ae⟩:=fB he;have O:=Y;simp only[rep]at O;obtain⟨ab,n0,rfl,_⟩:=O;obtain⟨l0,U,aq,ao,rfl,aw,ai⟩:=Kp Y al;obtain⟨ad,c,l,rfl,hl,Z,ak⟩:=hu;have F:=gL.1 am;have aj:=gL.1 al;have an:l.length=news.length*sz:=by rw[fS _ _ hl,mJ news F]
 have av:0<news.length:=List.length_pos_iff.2 ac;have au:es.length+news.length<=140737488355328:=Nat.le_trans (Nat.le_mul_of_pos_right _ X) hb;obtain⟨b,o,rfl,hcell⟩:∃b o,ad=some ⟨b,o,none⟩/\∀j x,l[j]?=some x->w.cell? ⟨b,o+j,none⟩=some x:=by
   rcases ak with h|h
   . exact absurd h ac
   . exact h
 have E:∀j x,l[j]?=some x->w.cell? ((⟨b,o,none⟩:Addr).add j)=some x:=fun j x hj=>by rw[Addr.add_lit];exact hcell j x hj
 have ar:∃M w',(Builtin.append_ #[t,t] ty #[.slice ab es.length es.length,.slice (some ⟨b,o,none⟩) news.length c]).run P w=.ok M w'/\w'.ownsRow w.heap.size e sz M (es.length+news.length) (l0++l)/\w.grownBy w' none:=by
   cases ab with
   | none=>
     have ap:es=[]:=by
       rcases ai with h|⟨_,_,h,_⟩
       . exact h
       . cases h
     subst ap;obtain rfl:l0=[]:=List.eq_nil_of_length_eq_zero (by simpa using U);obtain⟨M,w',q1,q2,q3,_⟩:=run_append_own (P:=P) w w.heap.size t ty e af z sz A ag hi hz ah aa ae J (.slice none 0 0) 0 [] (World.ownsRow_nil w _ e sz) ⟨b,o,none⟩ news.length c l an E Z (by simp only[maxLen];omega) hb (Nat.le_refl _);exact⟨M,w',q1,q2,q3⟩
   | some a0=>
     have T:∀j x,l0[j]?=some x->w.cell? (a0.add j)=some x:=by
       rcases ai with h|⟨b0,o0,h,hc⟩
       . subst h;obtain rfl:l0=[]:=List.eq_nil_of_length_eq_zero (by simpa using U);simp
       . injection h with h;subst h;intro j x hj;rw[Addr.add_lit];exact hc j x hj
     exact run_append_arg_grows (P:=P) w t ty e af z sz A ag hi hz ah aa ae J a0 es.length es.length l0 U T ⟨b,o,none⟩ news.length c l an E (by omega) (by simp only[maxLen];omega) hb
 obtain⟨M,w',q1,q2,q3⟩:=ar;have hf:(es++news).flatten=es.flatten++news.flatten:=List.flatten_append;obtain ⟨p1, p2, p3, _⟩ := hS.newOwned (es' := es ++ news) J (fun cs I => by
     rcases List.mem_append.1 I with I|I
     . exact aj cs I
     . exact F cs I) (by simp;omega) (by rw[List.length_append];exact q2) q3 (by rw[hf];exact cR _ _ _ _ aq hl) (fun x hx=>by
     rcases List.mem_append.1 hx with hx|hx
     . exact ao x hx
     . exact Z x hx)
 exact⟨M,w',q1,p1,p2,p3⟩
def St.appendOz(hS:St S w H){k a b:Nat}{r:Row}(hk:H k=some r){us:Value}(ay:rep S w (.oz k a b) us){t ty:TypeId}{I:Nat}(he:bT P t=some (r.e,r.sz,I)){news:List (List AV)}{u:Value}(hu:sQ S w u news)
   (aa:news≠[]) (hb:b=r.es.length) (U:cH r.sz news) (F:(r.es.length+news.length)*I<=140737488355328):
   ∃v' w' vl Y,(Builtin.append_ #[t,t] ty #[us,u]).run P w=.ok v' w'/\St (S.addRow vl r.sz) w' (aI (aI H k none) S.N (some ⟨r.e,r.sz,Y++(r.es.drop a++news)⟩))/\Grow S w (S.addRow vl r.sz) w' /\
     rep (S.addRow vl r.sz) w' (.oz S.N Y.length (Y.length+(b-a)+news.length)) v'/\Y.length<=a:=by
 have hR:=hS.rows k r hk;obtain⟨ah,z,ao,hi,ab,a5,ag,aj,hz,a9⟩:=fB he;have ae:=ay;simp only[rep]at ae;obtain⟨bo,bg,n0,Z,ak,cc,A,rfl,bp,bm,au,a8,bi,rfl⟩:=ae;have af:∀x:Option Row,∀j r',aI (aI H k none) S.N x j=some r'->aI H S.N x j=some r':=fun x j r' h=>by
   by_cases e:j=S.N
   . subst e;rw[aB]at h |-;exact h
   . rw[aD _ _ _ _ e]at h |-;by_cases e2:j=k
     . subst e2;rw[aB]at h;cases h
     . rw[aD _ _ _ _ e2]at h;exact h
 have ba:=hu;obtain⟨ad,c,l,rfl,hl,am,ap⟩:=ba;have T:=gL.1 U;have av:l.length=news.length*r.sz:=by rw[fS _ _ hl,mJ news T]
 have bj:0<news.length:=List.length_pos_iff.2 aa;have bh:r.es.length+news.length<=140737488355328:=Nat.le_trans (Nat.le_mul_of_pos_right _ aj) F;obtain⟨bn,on,rfl,hcell⟩:∃b o,ad=some ⟨b,o,none⟩/\∀j x,l[j]?=some x->w.cell? ⟨b,o+j,none⟩=some x:=by
   rcases ap with h|h
   . exact absurd h aa
   . exact h
 have M:∀j x,l[j]?=some x->w.cell? ((⟨bn,on,none⟩:Addr).add j)=some x:=fun j x X=>by rw[Addr.add_lit];exact hcell j x X
 rcases Nat.lt_or_ge a Z with ax|ax
 . obtain⟨g,rfl,rfl⟩:=au ax;obtain⟨xs,ho,hr,h1⟩:=hR.sl A;obtain⟨cur,hgc,J,htk,rfl⟩:∃cur,w.heap[g]?=some (.cells cur r.e (0,0))/\cur.size=Z*r.sz/\cur.toList.take (r.es.length*r.sz)=xs/\n0=r.es.length:=by
     rcases ho.2 with⟨hv,_⟩|⟨g',cap,cur,hv,_,h3,h4,h5,h6,h7⟩
     . rw[A]at hv;cases hv
     . rw[A]at hv;injection hv with e1 e2 e3;injection e1 with e1;injection e1 with e1;subst e1 e2 e3;exact⟨cur,h3,h6,h7,rfl⟩
   have bd:xs.length=r.es.length*r.sz:=ho.1;have a7:∀j x,xs[j]?=some x->w.cell? ⟨g,j,none⟩=some x:=fun j x X=>by
     have:=ho.cells (g:=g) (by rw[A];rfl) j x X
     rwa [Addr.add_lit,Nat.zero_add]at this
   subst hb;rcases Nat.lt_or_ge (Z-a) (r.es.length-a+news.length)with ai|a4
   . have a0 : ∀ j x, (xs.drop (a * r.sz))[j]? = some x -> w.cell? ((⟨g, a * S.sz k, none⟩ : Addr).add j) = some x := fun j x X => by rw[List.getElem?_drop]at X;rw[Addr.add_lit,<-hR.sz];exact a7 _ _ X
     obtain⟨v',w',q1,q2,q3⟩:=run_append_arg_grows (P:=P) w t ty r.e ah z r.sz I ao hi hz ab a5 a9 ag ⟨g,a*S.sz k,none⟩ (r.es.length-a) (Z-a) (xs.drop (a*r.sz)) (by rw[List.length_drop,bd,Nat.sub_mul]) a0 ⟨bn,on,none⟩ news.length c l av M ai (by simp only[maxLen];omega)
       (Nat.le_trans (Nat.mul_le_mul_right _ (by omega)) F)
     have ac:(r.es.drop a++news).length=r.es.length-a+news.length:=by simp
     have a6:bC S w (r.es.drop a).flatten (xs.drop (a*r.sz)):=by rw[wU r.es a hR.len];exact rK _ _ _ hr
     obtain ⟨_, p2, p3, g', cap', rfl, aq⟩ := hS.newOwned (es' := r.es.drop a ++ news) (vals := xs.drop (a * r.sz) ++ l) ag (fun cs J => by
         rcases List.mem_append.1 J with J|J
         . exact hR.len cs (List.mem_of_mem_drop J)
         . exact T cs J) (by rw[ac];omega) (by rw[ac];exact q2) q3 (by rw[List.flatten_append];exact cR _ _ _ _ a6 hl) (fun x hx=>by
         rcases List.mem_append.1 hx with hx|hx
         . exact h1 x (List.mem_of_mem_drop hx)
         . exact am x hx)
     refine⟨_,w',_,[],q1,p2.drop' (af _),p3,?_,Nat.zero_le _⟩;simp only[rep,List.length_nil,Nat.zero_add,Sg.addRow,if_true];exact⟨Nat.lt_succ_self _,_,_,_,_,_,rfl,by rw[ac];rfl,Nat.zero_le _,by rw[ac];exact Nat.le_refl _,fun _=>⟨g',rfl,by rw[Nat.zero_mul]⟩,fun _=>⟨rfl,rfl⟩,aq,by rw[Nat.sub_zero]⟩
   . have an : ∀ off E cap, off + E * ah.size = r.es.length * r.sz -> E + news.length <= cap -> (Builtin.append_ #[t, t] ty #[.slice (some ⟨g, off, none⟩) E cap, .slice (some ⟨bn, on, none⟩) news.length c]).run P w = .ok (.slice (some ⟨g, off, none⟩) (E + news.length) cap) (w.setCells g (r.es.length * r.sz) l) := fun off E cap O az => by
       have bc:∀j,j<l.length->r.es.length*r.sz+j<cur.size:=fun j X=>by have:(r.es.length+news.length)*r.sz<=Z*r.sz:=Nat.mul_le_mul_right _ (by omega);rw[Nat.add_mul]at this;rw[J];omega
       have:=run_append_room_cells (P:=P) w t ty r.e ah ao hi g off E cap ⟨bn,on,none⟩ news.length c l (by rw[ab];exact av) M am az
         (fun j X=>by rw[O];exact We hgc (bc j X)) (fun j X=>by rw[O];exact Mz hgc)
       rw[O]at this;exact this
     have r1:=an 0 r.es.length Z (by rw[ab,Nat.zero_add]) (by omega);have r2:=an (a*S.sz k) (r.es.length-a) (Z-a) (by rw[ab,<-hR.sz,<-Nat.add_mul];congr 1;omega) (by omega);obtain⟨v1,w1,q1,_,q2,q3⟩:=hS.append hk A (ty:=ty) he hu U F;rw[A,r1]at q1;injection q1 with e1 e2;subst e1 e2;have aw:(r.es.take a).length=a:=by rw[List.length_take];omega
     refine⟨_,_,_,r.es.take a,r2,?_,q3,?_,Nat.le_of_eq aw⟩
     . rw[<-List.append_assoc,List.take_append_drop];exact q2
     . simp only[rep,Sg.addRow,if_true];rw[aw];exact⟨Nat.lt_succ_self _,_,_,_,_,_,rfl,congrArg (fun m=>Value.slice _ m _) (by omega),by omega,by omega,fun _=>⟨g,rfl,by rw[<-hR.sz]⟩,fun h0=>by subst h0;exact⟨by rw[Nat.zero_mul],by omega⟩,by omega,rfl⟩
 . have e0:r.es.drop a=[]:=List.drop_eq_nil_of_le (by omega);have be:Z-a=0:=by omega
   have ar:b-a=0:=by omega
   obtain⟨v',w',q1,⟨x1,x2,x3,rfl⟩,q2,q3⟩:=hS.appendNew (es:=[]) (us:=.slice ak (b-a) (Z-a)) (by simp only[rep];exact⟨ak,0,by rw[be,ar],rfl,Nat.zero_le _,.inl trivial⟩) (ty:=ty) he hu aa trivial U (by simpa using Nat.le_trans (Nat.mul_le_mul_right _ (Nat.le_add_left _ _)) F);have al:=q2.rows S.N _ (aB _ _ _);obtain⟨bk,O,_,_⟩:=al.sl (by simp[Sg.addRow]:(S.addRow (.slice x1 x2 x3) r.sz).loc S.N=.slice x1 x2 x3);have bb:(S.addRow (.slice x1 x2 x3) r.sz).loc S.N=.slice x1 x2 x3:=by simp[Sg.addRow]
   obtain⟨g',rfl,rfl,hc3⟩:∃g',x1=some ⟨g',0,none⟩/\x2=news.length/\news.length<=x3:=by
     rcases O.2 with⟨_,hn⟩|⟨g',cap',bf,hv,_,_,h4,_⟩
     . simp at hn;exact absurd hn aa
     . rw[bb]at hv;injection hv with e1 e2 e3;subst e3;simp at e2 h4;exact⟨g',e1,e2,h4⟩
   refine⟨_,w',_,[],q1,?_,q3,?_,Nat.zero_le _⟩
   . rw[e0];exact q2.drop' (af _)
   . simp only[rep,List.length_nil,Nat.zero_add,Sg.addRow,if_true,ar];exact⟨Nat.lt_succ_self _,_,_,_,_,_,rfl,by rw[Nat.sub_zero],Nat.zero_le _,Nat.le_refl _,fun _=>⟨g',rfl,by rw[Nat.zero_mul]⟩,fun _=>⟨rfl,rfl⟩,hc3,by rw[Nat.sub_zero]⟩
end
end Go.Aw
end
section
namespace Go.Aw
open Go.RowKit
mutual
inductive Conv (H:aH):AV->AV->Prop
 | refl (x:AV):Conv H x x
 | any (x:AV):Conv H x .any
 | row (k:Nat) (r:Row) (es:List (List AV)):H k=some r->ConvE H r.es es->Conv H (.os k) (.sl es)
 | sl (es es':List (List AV)):ConvE H es es'->Conv H (.sl es) (.sl es')
 | agg (cs cs':List AV):ConvL H cs cs'->Conv H (.agg cs) (.agg cs')
 | tup (cs cs':List AV):ConvL H cs cs'->Conv H (.tup cs) (.tup cs')
 | ptr (k i f:Nat) (r:Row) (cs:List AV):H k=some r->i<r.es.length->ConvL H (r.es.getD i []) cs->Conv H (.op k i f) (.rp cs f)
 | fn (f:FuncId) (cap cap':List AV):ConvL H cap cap'->Conv H (.fn f cap) (.fn f cap')
inductive ConvL (H:aH):List AV->List AV->Prop
 | nil:ConvL H [] []
 | cons (x y:AV) (r s:List AV):Conv H x y->ConvL H r s->ConvL H (x::r) (y::s)
inductive ConvE (H:aH):List (List AV)->List (List AV)->Prop
 | nil:ConvE H [] []
 | cons (x y:List AV) (r s:List (List AV)):ConvL H x y->ConvE H r s->ConvE H (x::r) (y::s)
end
def ConvL.refl{H:aH}:∀l,ConvL H l l
 | []=>.nil
 | x::r=>.cons x x r r (.refl x) (ConvL.refl r)
def ConvE.refl{H:aH}:∀l,ConvE H l l
 | []=>.nil
 | x::r=>.cons x x r r (ConvL.refl x) (ConvE.refl r)
def Sg.froze(S:Sg)(H:aH):Sg:=
 { S with ro:=fun g=>S.ro g\/∃k r,H k=some r/\blk (S.loc k)=some g,fz:=fun g=>S.fz g\/∃k r,H k=some r/\blk (S.loc k)=some g }
def Sg.le_froze(S:Sg)(H:aH):S.le (S.froze H):=⟨fun _ h=>.inl h,Nat.le_refl _,fun _ _=>rfl,fun _ _=>rfl⟩
section
variable{S:Sg}{w:World}{H:aH}
def ConvE.len:∀{es es':List (List AV)},ConvE H es es'->es'.length=es.length
 | _,_,.nil=>rfl
 | _,_,.cons _ _ _ _ _ h=>by simp[ConvE.len h]
mutual
def Conv.rep(I:St S w H):∀{x y:AV} {u:Value},Conv H x y->rep S w x u->Aw.rep (S.froze H) w y u
 | _,_,_,.refl x,h=>lG (S.le_froze H) (fN.refl S w) _ _ h
 | _,_,_,.any x,_=>by simp only[Aw.rep]
 | _,_,u,.row k r es hk F,h=>by
  simp only[Aw.rep]at h |-;obtain⟨_,rfl,_,_,_,J⟩:=h;have M:=I.rows k r hk;obtain⟨xs,ho,hr,h1⟩:=M.sl J;rcases ho.2 with⟨U,hn⟩|⟨g,cap,cur,U,_,Y,Z,O,h5⟩
  ·have h0:=List.eq_nil_of_length_eq_zero hn;refine⟨none,0,0,U,by rw[F.len,hn],Nat.le_refl _,Nat.zero_le _,.inl ?_⟩;exact List.eq_nil_of_length_eq_zero (by rw[F.len,hn])
  ·refine⟨_,_,cap,U,F.len,Z,O,.inr ⟨g,0,r.sz,rfl,.inr ⟨k,r,hk,by rw[U];rfl⟩,M.pos,?_⟩⟩;refine ConvE.rep I F ?_;refine pG _ _ M.len (iJ _ xs 0 hr h1 fun j u hu=>?_);have:=ho.cells (g:=g) (by rw[U];rfl) j u hu
   rwa [Addr.add_lit]at this
 | _,_,_,.sl es es' F,h=>by
  simp only[Aw.rep]at h |-;obtain⟨ad,n,c,rfl,h1,Y,Z,O⟩:=h;refine⟨ad,n,c,rfl,by rw[F.len,h1],Y,Z,?_⟩;rcases O with O|⟨b,o,sz,rfl,hb,hs,X⟩
  ·exact .inl (List.eq_nil_of_length_eq_zero (by rw[F.len,O];rfl))
  ·exact .inr ⟨b,o,sz,rfl,.inl hb,hs,ConvE.rep I F X⟩
 | _,_,_,.agg cs cs' hc,h=>by simp only[Aw.rep]at h |-;obtain⟨l,rfl,h1,Y⟩:=h;exact⟨l,rfl,ConvL.rep I hc h1,Y⟩
 | _,_,_,.tup cs cs' hc,h=>by simp only[Aw.rep]at h |-;obtain⟨l,rfl,h1⟩:=h;exact⟨l,rfl,ConvL.rep I hc h1⟩
 | _,_,_,.ptr k i f r cs hk hi hc,h=>by
  simp only[Aw.rep]at h |-;obtain⟨_,g,n,c,A,rfl⟩:=h;have M:=I.rows k r hk;have aa:r.es≠[]:=fun e=>by rw[e]at hi;simp at hi
  obtain⟨g',n',c',E,F,_⟩:=M.els A aa;rw[A]at E;injection E with T e2 e3;injection T with T;injection T with T;subst T;obtain⟨e4,e5⟩:=rJ _ 0 i F hi;rw[Nat.zero_add,M.sz]at e5;exact⟨g,i*S.sz k,rfl,.inr ⟨k,r,hk,by rw[A];rfl⟩,(ConvL.cells I hc e5).1⟩
 | _,_,_,.fn f cap cap' hc,h=>by simp only[Aw.rep]at h |-;obtain⟨l,rfl,h1⟩:=h;exact⟨l,rfl,ConvL.rep I hc h1⟩
def ConvL.rep(A:St S w H):∀{x y:List AV} {l:List Value},ConvL H x y->bC S w x l->bC (S.froze H) w y l
 | _,_,_,.nil,h=>h
 | _,_,_,.cons x y r s hx hr,h=>by simp only[bC]at h |-;obtain⟨u,t,rfl,h1,E⟩:=h;exact⟨u,t,rfl,Conv.rep A hx h1,ConvL.rep A hr E⟩
def ConvL.cells(A:St S w H){b:Nat}:∀{x y:List AV} {o:Nat},ConvL H x y->cM S w b o x->cM (S.froze H) w b o y/\y.length=x.length
 | _,_,_,.nil,_=>⟨trivial,rfl⟩
 | _,_,o,.cons x y r s hx hr,h=>by simp only[cM]at h |-;obtain⟨⟨u,h1,J,F⟩,E⟩:=h;obtain⟨I,M⟩:=ConvL.cells A hr E;exact⟨⟨⟨u,h1,J,Conv.rep A hx F⟩,I⟩,by simp[M]⟩
def ConvE.rep(A:St S w H){b sz:Nat}:∀{x y:List (List AV)} {o:Nat},ConvE H x y->gI S w b sz o x->gI (S.froze H) w b sz o y
 | _,_,_,.nil,_=>trivial
 | _,_,o,.cons x y r s hx hr,h=>by simp only[gI]at h |-;obtain⟨h1,I,E⟩:=h;obtain⟨F,J⟩:=ConvL.cells A hx I;exact⟨by rw[J,h1],F,ConvE.rep A hr E⟩
end
end
mutual
def fv:AV->Option Value
 | .v x=>some x
 | .tup vs=>(fvL vs).map fun l=>.tuple l.toArray
 | .agg vs=>(fvL vs).map fun l=>.agg l.toArray
 | _=>none
def fvL:List AV->Option (List Value)
 | []=>some []
 | x::r=>match fv x,fvL r with
   | some u,some l=>some (u::l)
   | _,_=>none
end
mutual
def Lh{S:Sg}{w:World}:∀{x:AV} {u v:Value},fv x=some v->rep S w x u->u=v
 | .v x,u,v,h,hr=>by simp only[fv]at h;injection h with h;subst h;simpa only[rep]using hr
 | .tup vs,u,v,h,hr=>by
  simp only[fv]at h;cases A:fvL vs with
  | none=>simp[A]at h
  | some l=>simp[A]at h;subst h;simp only[rep]at hr;obtain⟨l',rfl,h1⟩:=hr;rw[Kn A h1]
 | .agg vs,u,v,h,hr=>by
  simp only[fv]at h;cases A:fvL vs with
  | none=>simp[A]at h
  | some l=>simp[A]at h;subst h;simp only[rep]at hr;obtain⟨l',rfl,h1,_⟩:=hr;rw[Kn A h1]
 | .any,_,_,h,_=>by simp[fv]at h
 | .sl _,_,_,h,_=>by simp[fv]at h
 | .rp _ _,_,_,h,_=>by simp[fv]at h
 | .os _,_,_,h,_=>by simp[fv]at h
 | .op _ _ _,_,_,h,_=>by simp[fv]at h
 | .gd _ _,_,_,h,_=>by simp[fv]at h
 | .fn _ _,_,_,h,_=>by simp[fv]at h
 | .nf _,_,_,h,_=>by simp[fv]at h
 | .oz _ _ _,_,_,h,_=>by simp[fv]at h
 | .cl _,_,_,h,_=>by simp[fv]at h
def Kn{S:Sg}{w:World}:∀{x:List AV} {u v:List Value},fvL x=some v->bC S w x u->u=v
 | [],u,v,h,hr=>by simp only[fvL]at h;injection h with h;subst h;simpa only[bC]using hr
 | x::r,u,v,h,hr=>by
  simp only[fvL]at h;cases h1:fv x with
  | none=>simp[h1]at h
  | some a=>
   cases A:fvL r with
   | none=>simp[h1,A]at h
   | some l=>simp[h1,A]at h;subst h;simp only[bC]at hr;obtain⟨I,t,rfl,F,E⟩:=hr;rw[Lh h1 F,Kn A E]
end
mutual
def Pv{S I:Sg}{w E:World}:∀{x:AV} {u v:Value},fv x=some v->rep S w x u->rep I E x u
 | .v x,u,v,h,hr=>by simpa only[rep]using hr
 | .tup vs,u,v,h,hr=>by
  simp only[fv]at h;cases A:fvL vs with
  | none=>simp[A]at h
  | some l=>simp only[rep]at hr |-;obtain⟨l',rfl,h1⟩:=hr;exact⟨l',rfl,KN A h1⟩
 | .agg vs,u,v,h,hr=>by
  simp only[fv]at h;cases A:fvL vs with
  | none=>simp[A]at h
  | some l=>simp only[rep]at hr |-;obtain⟨l',rfl,h1,F⟩:=hr;exact⟨l',rfl,KN A h1,F⟩
 | .any,_,_,h,_=>by simp[fv]at h
 | .sl _,_,_,h,_=>by simp[fv]at h
 | .rp _ _,_,_,h,_=>by simp[fv]at h
 | .os _,_,_,h,_=>by simp[fv]at h
 | .op _ _ _,_,_,h,_=>by simp[fv]at h
 | .gd _ _,_,_,h,_=>by simp[fv]at h
 | .fn _ _,_,_,h,_=>by simp[fv]at h
 | .nf _,_,_,h,_=>by simp[fv]at h
 | .oz _ _ _,_,_,h,_=>by simp[fv]at h
 | .cl _,_,_,h,_=>by simp[fv]at h
def KN{S J:Sg}{w F:World}:∀{x:List AV} {u v:List Value},fvL x=some v->bC S w x u->bC J F x u
 | [],u,v,h,hr=>by simpa only[bC]using hr
 | x::r,u,v,h,hr=>by
  simp only[fvL]at h;cases h1:fv x with
  | none=>simp[h1]at h
  | some a=>
   cases A:fvL r with
   | none=>simp[h1,A]at h
   | some l=>simp only[bC]at hr |-;obtain⟨I,t,rfl,E,M⟩:=hr;exact⟨I,t,rfl,Pv h1 E,KN A M⟩
end
def ahX(S:Sg)(w:World)(H:aH)(R:AV->aH->Prop)(e:Ending)(w':World):Prop:=
 ∃v r H' S',e=.returned v/\R r H'/\St S' w' H'/\rep S' w' r v/\Grow S w S' w'/\eV S.N H H'
def bF(P:Program)(f:FuncId)(args:List AV)(H:aH)(R:AV->aH->Prop):Prop:=
 ∀S w (vals:List Value),St S w H->bC S w args vals->Calls P f vals.toArray w (ahX S w H R)
def bS:aH:=fun _=>none
def RC(P:Program)(f:FuncId)(args:List AV)(R:AV->aH->Prop):Prop:=
 ∀S w (vals:List Value),St S w bS->(∀k,k<w.heap.size->S.fz k)->bC S w args vals->Calls P f vals.toArray w (ahX S w bS R)
def PC(P:Program)(f:FuncId)(args:List AV)(r:AV):Prop:=RC P f args fun x _=>x=r
def NC(P:Program)(f:FuncId)(args:List AV)(row:Row)(mk:Nat->AV):Prop:=RC P f args fun x H'=>∃k,x=mk k/\H' k=some row
def xP(P:Program)(f:FuncId)(args:List AV)(H:aH)(r:AV):Prop:=∃args',ConvL H args args'/\PC P f args' r/\(fv r).isSome=true
def dD(P:Program)(f:FuncId)(args:List AV)(H:aH)(r:AV):Prop:=xP P f args H r\/∃x,r=.nf x/\PC P f args x
def LY{q:Bool}{r:AV}{K:AV->Prop}(h:(fv r).isSome=true):nfq q r K=K r:=by cases q <;> cases r <;> first|rfl|(simp[fv]at h)
def Nd{q:Bool}{r:AV}{K:AV->Prop}(h:nfq q r K):∃z,K z:=by
 unfold nfq at h;split at h
 ·exact h.elim
 ·exact⟨_,h⟩
 ·exact⟨_,h⟩
section
variable{P:Program}{f:FuncId}{args:List AV}{H:aH}{R K:AV->aH->Prop}
def RC.mono(h:RC P f args R)(A:∀r H',R r H'->K r H'):RC P f args K:=fun S w vals I E F=>(h S w vals I E F).mono fun _ _ ⟨v,r,H',S',h1,M,J⟩=>⟨v,r,H',S',h1,A r H' M,J⟩
def St.drop{S:Sg}{w:World}{H':aH}(h:St S w H)(E:∀k r,H' k=some r->H k=some r):St S w H':=
 ⟨h.ro_fz,h.fz_lt,fun k r A=>h.rows k r (E k r A),fun k r A=>h.free k r (E k r A),fun k k' r r' A F=>h.disj k k' r r' (E k r A) (E k' r' F),h.tabs⟩
def RC.conv{r:AV}(h:RC P f args fun x H'=>Conv H' x r):PC P f args r:=fun S w vals M U Y=>
 (h S w vals M U Y).mono fun e w' ⟨v,x,H',S',J,O,E,X,I,Z⟩=>by
  refine⟨v,r,bS,S'.froze H',J,rfl,⟨?_,?_,fun k r F=>by simp[bS]at F,fun k r F=>by simp[bS]at F,fun k k' r r' F=>by simp[bS]at F,E.tabs.keep (S'.le_froze H') (fN.refl S' w')⟩,O.rep E X,?_,fun _ _ _=>rfl⟩
  ·rintro g (A|A)
   ·exact .inl (E.ro_fz g A)
   ·exact .inr A
  ·rintro g (A|⟨k,row,F,A⟩)
   ·exact E.fz_lt g A
   ·exact(E.rows k row F).block_lt A
  ·refine⟨Sg.le_trans I.le (S'.le_froze H'),fun k F=>.inl (I.fz k F),I.os,I.tape,I.output,I.size,I.same,?_⟩;rintro g (A|⟨k,row,F,A⟩)
   ·exact I.newro g A
   ·exact .inr fun T=>E.free k row F g A (I.fz g T)
def merge(H H':aH):aH:=fun k=>match H' k with|some r=>some r|none=>H k
def RC.frame(h:RC P f args R)(hK:∀r H',R r H'->(∀k row,H' k=some row->H k=none)->∃Z,K r Z/\(∀k row,Z k=some row->merge H H' k=some row)/\∀k,H k=none->H' k=none->Z k=none):
  bF P f args H K:=by
 intro S w vals F ha
 let S0:Sg:={ S with fz:=fun k=>k<w.heap.size }
 have ak:S.le S0:=⟨fun _ h=>h,Nat.le_refl _,fun _ _=>rfl,fun _ _=>rfl⟩;have aq:St S0 w bS:=⟨fun k A=>F.fz_lt k (F.ro_fz k A),fun _ h=>h,fun k r A=>by simp[bS]at A,fun k r A=>by simp[bS]at A,fun k k' r r' A=>by simp[bS]at A,F.tabs⟩;refine(h S0 w vals aq (fun _ h=>h) (dK ak (fN.refl S w) _ _ ha)).mono fun e w' ⟨v,x,H',S',he,hx,I,hv,U,hn⟩=>?_
 have al:∀k row,H' k=some row->S.N<=k:=fun k row A=>by
  rcases Nat.lt_or_ge k S.N with ah|af
  ·rw[hn k ah rfl]at A;simp at A
  ·exact af
 have aj:∀k row,H' k=some row->H k=none:=fun k row A=>by
  cases hH:H k with
  | none=>rfl
  | some r=>have:=(F.rows k r hH).lt;have:=al k row A;omega
 obtain⟨Z,ap,au,ar⟩:=hK x H' hx aj
 let S'':Sg:={ S' with fz:=fun k=>S.fz k\/(S'.fz k/\w.heap.size<=k)\/S'.ro k }
 have aa:S'.le S'':=⟨fun _ h=>h,Nat.le_refl _,fun _ _=>rfl,fun _ _=>rfl⟩;have an:∀k,k<S.N->S'.loc k=S.loc k:=U.le.loc;have ae:S.le S'':=⟨fun k A=>U.le.ro k A,U.le.N,U.le.loc,U.le.sz⟩;have M:∀k,k<w.heap.size->w'.heap[k]?=w.heap[k]?:=U.same;have ag:fN S w w':=fun k A=>M k (F.fz_lt k (F.ro_fz k A))
 have ai:∀k r,H k=some r->RowOK S'' w' k r:=fun k r A=>(F.rows k r A).keep ae ag fun g E=>M g ((F.rows k r A).block_lt E)
 have ab:∀k r,H' k=some r->RowOK S'' w' k r:=fun k r A=>(I.rows k r A).keep aa (fN.refl S' w') fun _ _=>rfl
 have J:∀k r,H k=some r->∀g,blk (S''.loc k)=some g->blk (S.loc k)=some g/\g<w.heap.size:=fun k r A g E=>by have h1:S''.loc k=S.loc k:=an k (F.rows k r A).lt;rw[h1]at E;exact⟨E,(F.rows k r A).block_lt E⟩
 have O:∀k r,H' k=some r->∀g,blk (S''.loc k)=some g->¬S'.fz g/\w.heap.size<=g:=fun k r A g E=>by
  have h1:=I.free k r A g E;refine⟨h1,?_⟩;rcases Nat.lt_or_ge g w.heap.size with ah|af
  ·exact absurd (U.fz g ah) h1
  ·exact af
 have lW:∀k r,merge H H' k=some r->H' k=some r\/(H k=some r/\H' k=none):=fun k r A=>by
  unfold merge at A;cases Y:H' k with
  | none=>rw[Y]at A;exact .inr ⟨A,rfl⟩
  | some r'=>rw[Y]at A;exact .inl A
 have hM:St S'' w' (merge H H'):=by
  refine⟨fun k A=>.inr (.inr A),?_,?_,?_,?_,I.tabs⟩
  ·rintro k (A|A|A)
   ·exact Nat.lt_of_lt_of_le (F.fz_lt k A) U.size
   ·exact I.fz_lt k A.1
   ·exact I.fz_lt k (I.ro_fz k A)
  ·intro k r A;rcases lW k r A with Y|⟨Y,_⟩
   ·exact ab k r Y
   ·exact ai k r Y
  ·intro k r A g E X;rcases lW k r A with Y|⟨Y,_⟩
   ·obtain⟨e1,e2⟩:=O k r Y g E;rcases X with X|X|X
    ·have:=F.fz_lt g X;omega
    ·exact e1 X.1
    ·exact e1 (I.ro_fz g X)
   ·obtain⟨e1,e2⟩:=J k r Y g E;rcases X with X|X|X
    ·exact F.free k r Y g e1 X
    ·omega
    ·rcases U.newro g X with T|T
     ·exact F.free k r Y g e1 (F.ro_fz g T)
     ·exact T e2
  ·intro k k' r r' A am ao g E ac;rcases lW k r A with h1|⟨h1,_⟩
   ·rcases lW k' r' am with T|⟨T,_⟩
    ·exact I.disj k k' r r' h1 T ao g E ac
    ·have:=(O k r h1 g E).2;have:=(J k' r' T g ac).2;omega
   ·rcases lW k' r' am with T|⟨T,_⟩
    ·have:=(J k r h1 g E).2;have:=(O k' r' T g ac).2;omega
    ·exact F.disj k k' r r' h1 T ao g (J k r h1 g E).1 (J k' r' T g ac).1
 refine⟨v,x,Z,S'',he,ap,hM.drop au,lG aa (fN.refl S' w') _ _ hv,⟨ae,fun _ h=>.inl h,U.os,U.tape,U.output,U.size,fun k A=>M k (F.fz_lt k A),fun k A=>(U.newro k A).imp id (fun T h3=>T (F.fz_lt k h3))⟩,?_⟩
 ·intro k A h0;exact ar k h0 (hn k A rfl)
def PC.use{r:AV}(h:PC P f args r)(J:K r H):bF P f args H K:=
 RC.frame h fun x H' F E=>⟨H,F▸J,fun k row A=>by
  unfold merge;cases I:H' k with
  | none=>exact A
  | some r'=>rw[E k r' I]at A;simp at A,fun _ h _=>h⟩
def NC.use{row:Row}{F:Nat->AV}(h:NC P f args row F)(M:∀k,H k=none->K (F k) (aI H k (some row))):bF P f args H K:=
 RC.frame h fun x H' ⟨k,O,E⟩ I=>⟨aI H k (some row),O▸M k (I k row E),fun j r A=>by
  unfold merge;by_cases e:j=k
  ·subst e;rw[aB]at A;rw[E];exact A
  ·rw[aD _ _ _ _ e]at A;cases J:H' j with
   | none=>exact A
   | some r'=>rw[I j r' J]at A;simp at A,fun j h0 h1=>by
  by_cases e:j=k
  ·subst e;rw[E]at h1;simp at h1
  ·rw[aD _ _ _ _ e];exact h0⟩
def xP.val{r:AV}(h:xP P f args H r):∃v,fv r=some v:=by obtain⟨_,_,_,A⟩:=h;exact Option.isSome_iff_exists.1 A
def xP.calls{r:AV}(h:xP P f args H r){v:Value}(X:fv r=some v){S:Sg}{w:World}{vals:List Value}(M:St S w H)(ha:bC S w args vals):
  (∀S2 Z,rep S2 Z r v)/\Calls P f vals.toArray w fun e w'=>e=.returned v/\w'.os=w.os/\w'.tape=w.tape/\w'.output=w.output/\w.heap.size<=w'.heap.size/\∀k,k<w.heap.size->w'.heap[k]?=w.heap[k]?:=by
 obtain⟨args',hc,hp,hf⟩:=h
 let S0:Sg:={ S.froze H with fz:=fun k=>k<w.heap.size }
 have I:(S.froze H).le S0:=⟨fun _ h=>h,Nat.le_refl _,fun _ _=>rfl,fun _ _=>rfl⟩;have T:St S0 w bS:=⟨fun k F=>by
  rcases F with F|⟨j,r,hj,J⟩
  ·exact M.fz_lt k (M.ro_fz k F)
  ·exact(M.rows j r hj).block_lt J,fun _ h=>h,fun k r F=>by simp[bS]at F,fun k r F=>by simp[bS]at F,fun k k' r r' F=>by simp[bS]at F,(M.tabs.keep (S.le_froze H) (fN.refl S w)).keep I (fN.refl _ w)⟩
 have A:=hp S0 w vals T (fun _ h=>h) (dK I (fN.refl _ w) _ _ (hc.rep M ha));refine⟨fun S2 Z=>?_,A.mono fun e w' ⟨v',x,H',S',Y,U,O,E,J,hn⟩=>?_⟩
 ·obtain⟨e,w',fr,⟨v',x,H',S',Y,U,O,E,_⟩,_⟩:=A [];subst U;have:=Lh X E;subst this;exact Pv X E
 ·subst U;have:=Lh X E;subst this;exact⟨Y,J.os,J.tape,J.output,J.size,J.same⟩
def St.after{S:Sg}{w w':World}(A:St S w H)(J:w.heap.size<=w'.heap.size)(F:∀k,k<w.heap.size->w'.heap[k]?=w.heap[k]?):St S w' H:=
 ⟨A.ro_fz,fun k h=>Nat.lt_of_lt_of_le (A.fz_lt k h) J,fun k r h=>(A.rows k r h).keep S.le_refl (fun j E=>F j (A.fz_lt j (A.ro_fz j E))) fun g I=>F g ((A.rows k r h).block_lt I),A.free,A.disj,A.tabs.keep S.le_refl (fun j E=>F j (A.fz_lt j (A.ro_fz j E)))⟩
def St.grow{S:Sg}{w w':World}(A:St S w H)(I:w'.os=w.os)(E:w'.tape=w.tape)(M:w'.output=w.output)(J:w.heap.size<=w'.heap.size)(F:∀k,k<w.heap.size->w'.heap[k]?=w.heap[k]?):Grow S w S w':=
 ⟨S.le_refl,fun _ h=>h,I,E,M,J,fun k h=>F k (A.fz_lt k h),fun _ h=>.inl h⟩
def xP.use{r:AV}(h:xP P f args H r)(O:K r H):bF P f args H K:=by
 intro S w vals E Z;obtain⟨v,A⟩:=h.val;obtain⟨X,T⟩:=h.calls A E Z;refine T.mono fun e w' ⟨M,U,J,Y,F,I⟩=>⟨v,r,H,S,M,O,E.after F I,?_,E.grow U J Y F I,eV.refl _ _⟩
 exact X S w'
end
end Go.Aw
end
section
namespace Go.Aw
open Go.RowKit
def Rel(n:Nat)(S0:Sg)(w0:World)(H0:aH)(ρ:Env)(H:aH)(a:Act)(w:World):Prop:=
 ∃S,St S w H/\FR S w ρ a/\Grow S0 w0 S w/\eV S0.N H0 H/\a.defers=[]/\a.tmps.size=n
def aiH(n:Nat):Option Nat->Bool
 | some d=>decide (d<n)
 | none=>true
def jQ(n:Nat)(o:Oper):Bool:=o.op.operands.all (opB n)&&aiH n o.dst
section
variable{P:Program}{n:Nat}{S0:Sg}{w0:World}{H0:aH}{mt:Nat->Bool}{ops:Array Oper}
def wY{o:Oper}(h:jQ n o=true):(∀x∈o.op.operands,opB n x=true)/\aiH n o.dst=true:=by simp only[jQ,Bool.and_eq_true]at h;exact⟨fun x A=>Array.all_eq_true_iff_forall_mem.1 h.1 x A,h.2⟩
def zM(a:Act)(d:Option Nat)(v:Value):(a.put d v).tmps.size=a.tmps.size:=by cases d <;> simp[Act.put]
def oW(a:Act)(d:Option Nat)(v:Value):(a.put d v).defers=a.defers:=by cases d <;> simp[Act.put]
def wB{S:Sg}{w:World}{ρ:Env}{a:Act}{o:Oper}{K:Option Bool->Prop}(J:∀o∈ops,jQ n o=true)(X:FR S w ρ a)(Y:a.tmps.size=n)(h:cG ops ρ o.guard K):
  ∃G,K G/\(Region.wanted o (yielded ops a.tmps)=true↔gt G):=by
 unfold cG at h;unfold Region.wanted;cases U:o.guard with
 | none=>rw[U]at h;exact⟨none,h,by simp[gt]⟩
 | some jw=>
  obtain⟨j,A⟩:=jw;rw[U]at h;simp only at h;cases I:(ops[j]?).bind (·.dst)with
  | none=>rw[I]at h;exact h.elim
  | some t=>
   rw[I]at h;simp only at h;have M:t<a.tmps.size:=by
    cases T:ops[j]? with
    | none=>simp[T]at I
    | some oj=>simp[T]at I;have:=(wY (J oj (Array.mem_of_getElem? T))).2;rw[I]at this;simpa[aiH,Y]using this
   have F:yielded ops a.tmps j=match a.tmps.getD t undef with| .bool b=>some b|_=>none:=by
    unfold yielded;rw[I];have e:a.tmps.getD t undef=a.tmps[t]:=by simp[Array.getD,M]
    rw[e];simp only[Option.bind_some,Array.getElem?_eq_getElem M];cases a.tmps[t] <;> rfl
   have E:=X t M;split at h
   ·rename_i b O;rw[O]at E;simp only[rep]at E;rw[E]at F;refine⟨_,h,?_⟩;simp only[F,gt];cases b <;> cases A <;> simp
   ·rename_i g b O;rw[O]at E;simp only[rep]at E;refine⟨_,h,?_⟩;cases g with
    | true=>rw[E.1 rfl]at F;simp only[F,gt];cases b <;> cases A <;> simp
    | false=>rw[E.2 rfl]at F;simp[undef]at F;simp[F,gt]
   ·exact h.elim
def dU{S:Sg}{w:World}{G:Option Bool}{z:AV}(h:¬gt G):rep S w (wr G z) undef:=by
 cases G with
 | none=>exact absurd trivial h
 | some b=>
  have:b=false:=by simpa[gt]using h
  subst this;simp[wr,rep]
def eY{S:Sg}{w:World}{G:Option Bool}{z:AV}{v:Value}(h:gt G)(A:rep S w z v):rep S w (wr G z) v:=by
 cases G with
 | none=>exact A
 | some b=>have:b=true:=h;subst this;simpa[wr,rep]using A
end
section
variable{P:Program}{n:Nat}{S0:Sg}{w0:World}{H0:aH}{mt:Nat->Bool}{ops:Array Oper}{K:Env->aH->Prop}{K':Act->World->Prop}{Q':Exit->Act->World->Prop}{ρ:Env}{H:aH}{a:Act}{w:World}{o:Oper}{S:Sg}
def xW(P:Program)(ops:Array Oper)(o:Oper)(a:Act)(w:World)(K':Act->World->Prop)(Q':Exit->Act->World->Prop):Prop:=
 (Region.wanted o (yielded ops a.tmps)=true->o.wp P a w K' Q')/\(Region.wanted o (yielded ops a.tmps)=false->K' (a.put o.dst undef) w)
def dJ{v:Value}{w':World}(h:(execOp a.eval o).run P w=.ok (.value v) w')(A:K' (a.put o.dst v) w'):o.wp P a w K' Q':=by unfold Oper.wp;rw[h];exact A
def Rel.step(J:St S w H)(M:FR S w ρ a)(I:Grow S0 w0 S w)(T:eV S0.N H0 H)(O:a.defers=[])(X:a.tmps.size=n){S':Sg}{w':World}{H':aH}{z:AV}{v:Value}{d:Option Nat}
  (F:St S' w' H') (A:Grow S w S' w') (E:eV S.N H H') (U:rep S' w' z v):Rel n S0 w0 H0 (upd ρ d z) H' (a.put d v) w':=
 ⟨S',F,FR.put (M.keep A.le (A.kept J)) U,I.trans A,T.trans E I.le.N,by rw[oW];exact O,by rw[zM];exact X⟩
def rI(E:St S w H)(M:FR S w ρ a)(T:Grow S0 w0 S w)(U:eV S0.N H0 H)(Y:a.defers=[])(O:a.tmps.size=n)(hb:∀x∈o.op.operands,opB n x=true){G:Option Bool}
  (F:Region.wanted o (yielded ops a.tmps)=true↔gt G) (X:∀I H' Z w',K I H'->Rel n S0 w0 H0 I H' Z w'->K' Z w') (h:gP P G ρ H o.op fun x=>K (upd ρ o.dst (wr G x)) H):
  xW P ops o a w K' Q':=by
 obtain⟨z,hz,hg⟩:=Ey (O▸hb) M E.rows h;refine⟨fun J=>?_,fun J=>?_⟩
 ·have A:=F.1 J;obtain⟨v,hv,hr⟩:=hg A;exact dJ (hr w (Agree.refl S H w) o rfl) (X _ _ _ _ hz (Rel.step E M T U Y O E (Grow.refl S w) (eV.refl _ _) (eY A hv)))
 ·have A:¬gt G:=fun h=>by rw[F.2 h]at J;simp at J
  exact X _ _ _ _ hz (Rel.step E M T U Y O E (Grow.refl S w) (eV.refl _ _) (dU A))
def nK(E:St S w H){r:Option Row}:eV S.N H (aI H S.N r):=fun k A h=>by rw[aD _ _ _ _ (Nat.ne_of_lt A)];exact h
def acI(t:TypeId)(v:Value)(w:World):(Instr.box t v).run P w=.ok (.pointer (some ⟨w.heap.size,0,none⟩)) (w.alloc (.cells v.cells t)):=by simp[Instr.box,newVar,newRow]
def VB{t:TypeId}{z:List AV}(h:cV P t=some z)(A:Value)(w:World):∃(v:Value) (i:TypeInfo),P.info? t=some i/\z=v.cells.toList.map pQ/\(∀u∈v.cells.toList,u.oneCell'=true)/\v.cells.size≠0 /\
  (Instr.alloc t true A).run P w=.ok (.pointer (some ⟨w.heap.size,0,none⟩)) (w.alloc (.cells v.cells t)):=by
 obtain⟨i,v,J,M,F,I,E,h1⟩:=mT h;refine⟨v,i,J,F,h1,by rw[I];exact E,?_⟩;simp[Instr.alloc,zeroValue,typeInfo,J,M,newVar,newRow]
def Di(I:St S w H){t:TypeId}{cs:List AV}{l:List Value}(A:0<cs.length)(E:bC S w cs l)(h1:∀u∈l,u.oneCell'=true):
  ∃S',St S' (w.alloc (.cells l.toArray t)) (aI H S.N (some ⟨t,cs.length,[cs]⟩))/\Grow S w S' (w.alloc (.cells l.toArray t))/\rep S' (w.alloc (.cells l.toArray t)) (.op S.N 0 0) (.pointer (some ⟨w.heap.size,0,none⟩)):=by
 have F:=fS _ _ E;have:=I.newRow (e:=t) (sz:=cs.length) (cap:=1) (es:=[cs]) (xs:=l) (cur:=l.toArray) A (by simp) (by simpa using E) h1 (by simp) (by simp[maxLen]) (by simp[F]) (by simp[<-F]) (w':=w.alloc (.cells l.toArray t)) rfl rfl rfl rfl;refine⟨_,this.1,this.2,?_⟩;simp only[rep,Sg.addRow];exact⟨Nat.lt_succ_self _,w.heap.size,1,1,by simp,by simp⟩
def FC:∀(i n:Nat),JY i n=List.range' i n
 | _,0=>rfl
 | i,n+1=>by simp[JY,List.range'_succ,FC (i+1) n]
def Ig{sz n:Nat}:∀(l:List (Nat×List AV)) (vs:List (Nat×Value)) (i:Nat) (A:Array Value),l.map (·.1)=JY i l.length->cH sz (l.map (·.2))->l.length=vs.length ->
  (∀(j k:Nat) (c:List AV),l[j]?=some (k,c)->∃(v:Value) (l':List Value),vs[j]?=some (k,v)/\v.cells=List.toArray l'/\bC S w c l'/\∀u∈l',u.oneCell'=true)->A.size=n*sz->i+l.length=n ->
  ∃xs:List Value,Instr.fill (fun i=>some (i*sz,sz)) A vs=some (A.toList.take (i*sz)++xs).toArray/\bC S w (l.map (·.2)).flatten xs/\∀u∈xs,u.oneCell'=true
 | [],vs,i,A,_,_,hl,_,hA,hi=>by
  have:vs=[]:=List.eq_nil_of_length_eq_zero (by simpa using hl.symm);subst this;refine⟨[],?_,by simp[bC],by simp⟩;simp only[Instr.fill,List.append_nil];have:i=n:=by simpa using hi
  subst this;rw[List.take_of_length_le (by simp[hA])]
 | (k,c)::rest,vs,i,A,E,hlen,hl,hv,hA,hi=>by
  simp only[List.map_cons,List.length_cons,JY,List.cons.injEq]at E;obtain⟨rfl,E⟩:=E;simp only[List.map_cons,cH]at hlen;obtain⟨v,l',M,Z,O,e4⟩:=hv 0 k c (by simp);cases vs with
  | nil=>simp at M
  | cons q vs=>
   simp at M;subst M;have F:l'.length=sz:=by rw[fS _ _ O];exact hlen.1
   simp only[List.length_cons]at hi;have hm:(k+1)*sz<=n*sz:=Nat.mul_le_mul_right _ (by omega);rw[Nat.add_mul,Nat.one_mul]at hm;have T:=C1 l' 0 A (k*sz) (by rw[F,hA];omega);simp only[Nat.add_zero]at T;obtain⟨xs,Y,f2,X⟩:=Ig (n:=n) rest vs (k+1) (A.toList.take (k*sz)++l'++A.toList.drop (k*sz+l'.length)).toArray E hlen.2 (by simpa using hl) (fun j i c hj=>by simpa using hv (j+1) i c (by simpa using hj))
    (by simp only[List.size_toArray,List.length_append,List.length_take,List.length_drop,Array.length_toList,F,hA];omega) (by omega)
   refine⟨l'++xs,?_,?_,?_⟩
   ·simp only[Instr.fill,Z,List.size_toArray,F];rw[if_neg (by simp[hA];omega)];have I:(Array.foldl (fun cs (x:Value×Nat)=>cs.setIfInBounds (k*sz+x.2) x.1) A l'.toArray.zipIdx)=(A.toList.take (k*sz)++l'++A.toList.drop (k*sz+l'.length)).toArray:=by rw[<-T,<-Array.foldl_toList];simp
    rw[I,Y]
    congr 2
    have U:List.take ((k+1)*sz) (A.toList.take (k*sz)++l'++A.toList.drop (k*sz+l'.length))=A.toList.take (k*sz)++l':=by rw[Nat.add_mul,Nat.one_mul,List.take_append_of_le_length (by rw[List.length_append,List.length_take,Array.length_toList,F,hA];omega),List.take_of_length_le (by rw[List.length_append,List.length_take,Array.length_toList,F,hA];omega)]
    rw[U,List.append_assoc]
   ·simp only[List.map_cons,List.flatten_cons];exact cR _ _ _ _ O f2
   ·intro u J;rcases List.mem_append.1 J with J|J
    ·exact e4 u J
    ·exact X u J
def G2{t e:TypeId}{sz M:Nat}(he:bT P t=some (e,sz,M)){l:List (Nat×List AV)}{A:Array (Nat×Value)}{m:Nat}(I:l.map (·.1)=JY 0 m)(J:cH sz (l.map (·.2)))(hl:l.length=A.toList.length)
  (hv:∀(j k:Nat) (c:List AV),l[j]?=some (k,c)->∃(v:Value) (l':List Value),A.toList[j]?=some (k,v)/\v.cells=List.toArray l'/\bC S w c l'/\∀u∈l',u.oneCell'=true) (hm:m*sz<=16777216):
  ∃xs:List Value,(Instr.buildSlice t m A).run P w=.ok (.slice (some ⟨w.heap.size,0,none⟩) m m) (w.alloc (.cells xs.toArray e))/\bC S w (l.map (·.2)).flatten xs/\(∀u∈xs,u.oneCell'=true)/\l.length=m/\xs.length=m*sz:=by
 obtain⟨F,z,hu,hi,rfl,_,aa,_,hz,ab⟩:=fB he;have T:l.length=m:=by have:=congrArg List.length I;simpa[FC]using this
 have E:∀xs:List Value,bC S w (l.map (·.2)).flatten xs->xs.length=m*F.size:=fun xs h=>by rw[fS _ _ h,mJ _ (gL.1 J),List.length_map,T]
 subst T;obtain⟨xs,f1,U,f3⟩:=Ig (n:=l.length) l A.toList 0 ((Array.range (l.length*F.size)).map (z.cells[·%z.cells.size]!)) I J hl hv (by simp) (by simp);simp only[Nat.zero_mul,List.take_zero,List.nil_append]at f1;refine⟨xs,?_,U,f3,rfl,E xs U⟩;have Z:¬l.length*F.size>2^24:=by simpa using hm
 by_cases h0:l.length*F.size=0
 ·have O : l.length = 0 := by
   rcases Nat.mul_eq_zero.1 h0 with h|h
   ·exact h
   ·omega
  have X:A.toList=[]:=List.eq_nil_of_length_eq_zero (by rw[<-hl,O]);have Y:xs=[]:=List.eq_nil_of_length_eq_zero (by rw[E xs U,h0]);subst Y;simp[Instr.buildSlice,run_underlying hu,sizeOf,typeInfo,hi,h0,X,Instr.fill,newRow,O];have:(Array.range 0).map (fun _=>(default:Value))=#[]:=Array.eq_empty_of_size_eq_zero (by simp);rw[this]
 ·simp[Instr.buildSlice,run_underlying hu,sizeOf,typeInfo,hi,Z,h0,zeroValue,hz,newRow];rw[f1];simp
end
end Go.Aw
end
