/- Texts joined by a program: AwAppend, AwBody. -/
import Derived.ArgAppend
import Derived.Test.YtdlijlecpopadaaGreatDoorZv04
set_option linter.unusedSimpArgs false
set_option linter.unusedVariables false
set_option maxRecDepth 100000
section
namespace Go.Aw
open Go.RowKit
section
variable{P:Program}{S S':Sg}{w w':World}{H H':aF}
def wO(S:Sg)(w:World)(u:Value)(news:List (List AV)):Prop:=
 ∃ad c l,u=.slice ad news.length c∧aS S w news.flatten l∧(∀x∈l,x.oneCell'=true) ∧
   (news=[]∨∃b o,ad=some ⟨b,o,none⟩∧∀j x,l[j]?=some x→w.cell? ⟨b,o+j,none⟩=some x)
theorem L5{es:List (List AV)}{u:Value}(h:rep S w (.sl es) u):wO S w u es:=by
 simp only[rep]at h;obtain⟨ad,n,c,rfl,rfl,_,_,h4⟩:=h;rcases h4 with rfl|⟨b,o,sz,rfl,hb,hs,hels⟩
 · exact⟨ad,c,[],rfl,by simp[aS],by simp,.inl rfl⟩
 · obtain⟨l,e1,e2,e3,e4⟩:=kJ _ _ (tL es o hels)
   exact⟨_,c,l,rfl,e2,e3,.inr ⟨b,o,rfl,e4⟩⟩
theorem La{k:Nat}{r:Row}(h:RowOK S w k r){a0:Option Addr}{n0 c0:Nat}(hs:S.loc k=.slice a0 n0 c0):wO S w (S.loc k) r.es:=by
 obtain⟨xs,ho,hr,h1⟩:=h.sl hs;rcases ho.2 with⟨hv,hn⟩|⟨g,cap,cur,hv,_⟩
 · have he:=List.eq_nil_of_length_eq_zero hn
   have hx:xs=[]:=List.eq_nil_of_length_eq_zero (by rw[ho.1,hn];simp);exact⟨none,0,xs,by rw[hv,hn],hr,h1,.inl he⟩
 · refine⟨some ⟨g,0,none⟩,cap,xs,hv,hr,h1,.inr ⟨g,0,rfl,fun j x hj=>?_⟩⟩
   have:=ho.cells (g:=g) (by rw[hv];rfl) j x hj
   rwa [Addr.add_lit]at this
theorem CP{k a b:Nat}{r:Row}{u:Value}(hk:RowOK S w k r)(hu:rep S w (.oz k a b) u):wO S w u ((r.es.take b).drop a)∧b≤r.es.length∧a≤b:=by
 simp only[rep]at hu;obtain⟨_,ad,n,c,ad',cc,hloc,rfl,hab,hbn,hpos,_⟩:=hu;obtain⟨xs,ho,hr,h1⟩:=hk.sl hloc;have hn:n=r.es.length:=by
   rcases ho.2 with⟨hv,hn⟩|⟨g,cap,cur,hv,_⟩
   · rw[hloc]at hv;injection hv with _ h2 _;omega
   · rw[hloc]at hv;injection hv
 subst hn;refine⟨?_,hbn,hab⟩;have hlen:((r.es.take b).drop a).length=b-a:=by simp;omega
 rcases Nat.lt_or_ge a b with hlt|hge
 · obtain⟨g,rfl,rfl⟩:=hpos hlt
   have hne:r.es≠[]:=fun e=>by rw[e]at hbn;simp at hbn;omega
   obtain⟨g',n',c',hl',hels,_⟩:=hk.els hloc hne;rw[hloc]at hl';injection hl' with e1 _ _;injection e1 with e1;injection e1 with e1;subst e1;have h2:=xE _ 0 a (sO r.es 0 b hels);rw[Nat.zero_add,hk.sz]at h2;obtain⟨l,q1,q2,q3,q4⟩:=kJ _ _ (tL _ _ h2);exact⟨_,cc,l,by rw[hlen],q2,q3,.inr ⟨g,a*S.sz k,rfl,q4⟩⟩
 · have he:(r.es.take b).drop a=[]:=List.eq_nil_of_length_eq_zero (by omega)
   exact⟨ad',cc,[],by rw[hlen],by rw[he];simp[aS],by simp,.inl he⟩
theorem tC:∀(es:List (List AV)) (a:Nat) {sz:Nat},(∀c∈es,c.length=sz)→(es.take a).flatten=es.flatten.take (a*sz)
 | [],_,_,_=>by simp
 | x::r,0,_,_=>by simp
 | x::r,a+1,sz,hl=>by
   have hx:=hl x (by simp);rw[List.take_succ_cons,List.flatten_cons,List.flatten_cons,tC r a (fun c hc=>hl c (by simp[hc])),Nat.add_mul,Nat.one_mul,List.take_append,hx];rw[List.take_of_length_le (l:=x) (by omega)]
   congr 2
   omega
theorem xH:∀(es:List (List AV)) (a:Nat) {sz:Nat},(∀c∈es,c.length=sz)→(es.drop a).flatten=es.flatten.drop (a*sz)
 | [],_,_,_=>by simp
 | x::r,0,_,_=>by simp
 | x::r,a+1,sz,hl=>by
   have hx:=hl x (by simp);rw[List.drop_succ_cons,List.flatten_cons,xH r a (fun c hc=>hl c (by simp[hc])),Nat.add_mul,Nat.one_mul,List.drop_append,hx];rw[List.drop_eq_nil_of_le (as:=x) (by omega),List.nil_append]
   congr 1
   omega
theorem St.storeE(hS:St S w H){k:Nat}{r:Row}(hk:H k=some r){a:Nat}{news:List (List AV)}{l:List Value}(hlen:∀c∈news,c.length=r.sz)(ha:a+news.length≤r.es.length)(hne0:r.es≠[]){ad0:Option Addr}{n0 c0:Nat}(hs0:S.loc k=.slice ad0 n0 c0)
   (hr:aS S w news.flatten l) (h1:∀u∈l,u.oneCell'=true):
   ∃g n c w',S.loc k=.slice (some ⟨g,0,none⟩) n c∧(∀P:Program,(storeCells ⟨g,a*r.sz,none⟩ l).run P w=.ok () w') ∧
     St S w' (aJ H k (some { r with es:=r.es.take a++news++r.es.drop (a+news.length) }))∧Grow S w S w':=by
 have hR:=hS.rows k r hk;obtain⟨g,cap,cur,hloc,hg,hnc,hcm,hcs,hrep,hone⟩:=hR.open hs0 hne0;have hll:l.length=news.length*r.sz:=by rw[fT _ _ hr,jL news hlen]
 have hmul:(a+news.length)*r.sz≤r.es.length*r.sz:=Nat.mul_le_mul_right _ ha;have hmul2:r.es.length*r.sz≤cap*r.sz:=Nat.mul_le_mul_right _ hnc;rw[Nat.add_mul]at hmul;have hst:∀P:Program,_:=fun P=>run_storeCells_at (P:=P) g (a*r.sz) r.e l 0 cur w hg (by rw[hll,hcs];omega) h1
 simp only[Nat.add_zero]at hst;refine⟨g,_,cap,_,hloc,hst,?_,?_⟩
 · have hsame:∀j,j≠g→(w.setRow g (List.take (a*r.sz) cur.toList++l++List.drop (a*r.sz+l.length) cur.toList).toArray).heap[j]?=w.heap[j]?:=fun j hj=>setRow_other w g j _ hj
   have hgf:¬S.fz g:=hS.free k r hk g (by rw[hloc];rfl);have hkept:eT S w (w.setRow g (List.take (a*r.sz) cur.toList++l++List.drop (a*r.sz+l.length) cur.toList).toArray):=fun j hj=>hsame j (fun e=>hgf (e▸hS.ro_fz j hj))
   have hnl:(r.es.take a++news++r.es.drop (a+news.length)).length=r.es.length:=by simp;omega
   have e2 : List.take (r.es.length * r.sz) (List.take (a * r.sz) cur.toList ++ l ++ List.drop (a * r.sz + l.length) cur.toList) =
       (cur.toList.take (r.es.length*r.sz)).take (a*r.sz)++l++(cur.toList.take (r.es.length*r.sz)).drop (a*r.sz+l.length):=by
     rw[List.take_take,Nat.min_eq_left (by omega),List.drop_take];rw[List.take_append,List.take_append];simp only[List.length_append,List.length_take,Array.length_toList];rw[Nat.min_eq_left (by omega:a*r.sz≤cur.size)];rw[List.take_of_length_le (l:=List.take (a*r.sz) cur.toList) (by simp;omega),List.take_of_length_le (l:=l) (by omega)]
   refine⟨hS.ro_fz,fun j hj=>by simpa using hS.fz_lt j hj,?_,?_,?_,hS.tabs.keep S.le_refl hkept⟩
   · intro j r' hj
     by_cases e:j=k
     · subst e
       rw[lM]at hj;injection hj with hj;subst hj;refine⟨hR.lt,hR.sz,hR.pos,?_,.inl ?_⟩
       · intro c hc
         rcases List.mem_append.1 hc with hc|hc
         · rcases List.mem_append.1 hc with hc|hc
           · exact hR.len c (List.mem_of_mem_take hc)
           · exact hlen c hc
         · exact hR.len c (List.mem_of_mem_drop hc)
       · refine⟨(List.take (a*r.sz) cur.toList++l++List.drop (a*r.sz+l.length) cur.toList).take (r.es.length*r.sz),⟨?_,.inr ⟨g,cap,_,by rw[hnl];exact hloc,Nat.zero_le _,setRow_heap w g cur _ _ _ hg,by rw[hnl];exact hnc,hcm,?_,by rw[hnl]⟩⟩,?_,?_⟩
         · rw[hnl]
           simp only[List.length_take,List.length_append,List.length_drop,Array.length_toList];omega
         · simp only[List.size_toArray,List.length_append,List.length_take,List.length_drop,Array.length_toList]
           omega
         · have hx:=(cX (S.le_refl) hkept _ _ hrep)
           have hy:=(cX (S.le_refl) hkept _ _ hr);have e1:(r.es.take a++news++r.es.drop (a+news.length)).flatten=r.es.flatten.take (a*r.sz)++news.flatten++r.es.flatten.drop (a*r.sz+l.length):=by
             rw[List.flatten_append,List.flatten_append,tC _ _ hR.len,xH _ _ hR.len,Nat.add_mul,hll]
           rw[e1,e2];exact cZ _ _ _ _ (cZ _ _ _ _ (pA _ _ _ hx) hy) (rL _ _ _ hx)
         · intro u hu
           rw[e2]at hu;simp only[List.mem_append]at hu;rcases hu with(hu|hu)|hu
           · exact hone u (List.mem_of_mem_take hu)
           · exact h1 u hu
           · exact hone u (List.mem_of_mem_drop hu)
     · rw[aD _ _ _ _ e]at hj
       exact(hS.rows j r' hj).keep S.le_refl hkept fun g' hg'=>hsame g' (fun e'=>hS.disj j k r' r hj hk e g' hg' (by rw[hloc,e'];rfl))
   · intro j r' hj g' hg'
     by_cases e:j=k
     · subst e;exact hS.free j r hk g' hg'
     · rw[aD _ _ _ _ e]at hj;exact hS.free j r' hj g' hg'
   · intro j j' r1 r2 hj hj' hne' g' hg' hg2
     have p:∀j r',aJ H k (some { r with es:=r.es.take a++news++r.es.drop (a+news.length) }) j=some r'→∃r'',H j=some r'':=fun j r' hj=>by
       by_cases e:j=k
       · subst e;exact⟨r,hk⟩
       · rw[aD _ _ _ _ e]at hj;exact⟨_,hj⟩
     obtain⟨q1,hq1⟩:=p j r1 hj;obtain⟨q2,hq2⟩:=p j' r2 hj';exact hS.disj j j' q1 q2 hq1 hq2 hne' g' hg' hg2
 · refine⟨S.le_refl,fun _ h=>h,rfl,rfl,rfl,by simp,fun j hj=>setRow_other w g j _ (fun e=>hS.free k r hk g (by rw[hloc];rfl) (e▸hj)),fun _ h=>.inl h⟩
theorem MZ{k:Nat}{r:Row}(hk:H k=some r):aJ H k (some r)=H:=by
 funext j;by_cases e:j=k
 · subst e;rw[aB,hk]
 · rw[aD _ _ _ _ e]
theorem St.copy(hS:St S w H){k:Nat}{r:Row}(hk:H k=some r){t e sz bytes:Nat}{t' ty:TypeId}(he:bY P t=some (e,sz,bytes))(hsz:r.sz=sz){a n:Nat}(han:a+n≤r.es.length){x u:Value}{news:List (List AV)}(hu:wO S w u news)(hlen:dK sz news)
   (hx:∃ad cc,x=.slice ad n cc∧(0<n→∃g n' c',S.loc k=.slice (some ⟨g,0,none⟩) n' c'∧ad=some ⟨g,a*r.sz,none⟩)):
   ∃w',(Builtin.copy_ #[t,t'] ty #[x,u]).run P w=.ok (goInt (min news.length n:Nat)) w'∧St S w' (aJ H k (some { r with es:=r.es.take a++news.take (min news.length n)++r.es.drop (a+min news.length n) }))∧Grow S w S w':=by
 obtain⟨inf,z,hut,hi,hsz',hby,hpos,hbpos,hz,hzs⟩:=gW he;obtain⟨ad,cc,rfl,hxp⟩:=hx;obtain⟨sa,sc,l,rfl,hl,hl1,hsrc⟩:=hu;have hlen':=gZ.1 hlen;rcases Nat.eq_zero_or_pos (min news.length n)with h0|h0
 · refine⟨w,?_,?_,Grow.refl S w⟩
   · have hm0:Nat.min news.length n=0:=h0
     have hlz:∀a:Addr,(loadCells a 0).run P w=.ok #[] w:=fun a=>by simpa using run_loadCells_list (P:=P) w a [] (by simp)
     rw[h0];cases ad <;> cases sa <;> simp[Builtin.copy_,run_underlying hut,Builtin.lenOf,Builtin.firstCells,sizeOf,typeInfo,hi,hm0,hlz,storeCells]
   · rw[h0]
     have:({ r with es:=r.es.take a++news.take 0++r.es.drop (a+0) }:Row)=r:=by simp
     rw[this,MZ hk];exact hS
 · have hn0:0<n:=by omega
   obtain⟨g,n',c',hloc,rfl⟩:=hxp hn0;have hne0:r.es≠[]:=fun e=>by rw[e]at han;simp at han;omega
   have hm:(news.take (min news.length n)).length=min news.length n:=by simp
   have hfl:(news.take (min news.length n)).flatten=news.flatten.take (min news.length n*sz):=tC _ _ hlen';have hr':aS S w (news.take (min news.length n)).flatten (l.take (min news.length n*sz)):=by rw[hfl];exact pA _ _ _ hl
   obtain⟨g',n2,c2,w',hloc',hst,q1,q2⟩:=hS.storeE hk (a:=a) (news:=news.take (min news.length n)) (l:=l.take (min news.length n*sz)) (fun c hc=>by rw[hsz];exact hlen' c (List.mem_of_mem_take hc)) (by rw[hm];omega) hne0 hloc hr' (fun u hu=>hl1 u (List.mem_of_mem_take hu));rw[hloc]at hloc';injection hloc' with i1 _ _;injection i1 with i1;injection i1 with i1;subst i1;rw[hm]at q1;refine⟨w',?_,q1,q2⟩;rcases hsrc with hsrc|⟨b,o,rfl,hcells⟩
   · rw[hsrc]at h0;simp at h0
   · have hll:l.length=news.length*sz:=by rw[fT _ _ hl,jL news hlen']
     have hlt:(l.take (min news.length n*sz)).length=min news.length n*sz:=by
       rw[List.length_take,hll];exact Nat.min_eq_left (Nat.mul_le_mul_right _ (Nat.min_le_left _ _))
     have hld:=run_loadCells_list (P:=P) w ⟨b,o,none⟩ (l.take (min news.length n*sz)) (fun j v hj=>by
       rw[Addr.add_lit];refine hcells j v ?_;rw[List.getElem?_take]at hj;split at hj
       · exact hj
       · simp at hj)
     rw[hlt]at hld;have hmin:Nat.min news.length n=min news.length n:=rfl;simp[Builtin.copy_,run_underlying hut,Builtin.lenOf,Builtin.firstCells,sizeOf,typeInfo,hi,hsz',hmin,hld,hst P]
theorem tV(z:Array Value)(hz:0<z.size):∀m,(Builtin.zeroCells z m).toList=(List.replicate m z.toList).flatten
 | 0=>by simp[Builtin.zeroCells]
 | m+1=>by
   have ih:=tV z hz m;rw[show List.replicate (m+1) z.toList=List.replicate m z.toList++[z.toList]from List.replicate_succ',List.flatten_append,←ih];simp only[Builtin.zeroCells,Array.toList_map,Array.toList_range,Nat.add_mul,Nat.one_mul,List.flatten_cons,List.flatten_nil,List.append_nil];rw[List.range_add,List.map_append]
   congr 1
   apply List.ext_getElem
   · simp
   · intro i h1 h2
     simp only[List.length_map,List.length_range]at h1;simp[Nat.add_comm (m*z.size),Nat.add_mul_mod_self_right,Nat.mod_eq_of_lt h1,h1]
theorem St.clear(hS:St S w H){k:Nat}{r:Row}(hk:H k=some r){t e sz bytes:Nat}{ty:TypeId}{zs:List AV}(he:bY P t=some (e,sz,bytes))(hzs:eH P e=some zs)(hsz:r.sz=sz){a n:Nat}(han:a+n≤r.es.length){x:Value}
   (hx:∃ad cc,x=.slice ad n cc∧(0<n→∃g n' c',S.loc k=.slice (some ⟨g,0,none⟩) n' c'∧ad=some ⟨g,a*r.sz,none⟩)):
   ∃w',(Builtin.clear_ #[t] ty #[x]).run P w=.ok (.tuple #[]) w'∧St S w' (aJ H k (some { r with es:=r.es.take a++List.replicate n zs++r.es.drop (a+n) }))∧Grow S w S w':=by
 obtain⟨inf,z,hut,hi,hsz',hby,hpos,hbpos,hz,hzsz⟩:=gW he;obtain⟨i',v,hi',hiz,rfl,hvs,hne,h1⟩:=lE hzs;rw[hi]at hi';injection hi' with hi';subst hi';rw[hz]at hiz;injection hiz with hiz;subst hiz;obtain⟨ad,cc,rfl,hxp⟩:=hx;rcases Nat.eq_zero_or_pos n with h0|h0
 · subst h0
   refine⟨w,?_,?_,Grow.refl S w⟩
   · cases ad <;> simp[Builtin.clear_,run_underlying hut]
   · have:({ r with es:=r.es.take a++List.replicate 0 (z.cells.toList.map oA)++r.es.drop (a+0) }:Row)=r:=by simp
     rw[this,MZ hk];exact hS
 · obtain⟨g,n',c',hloc,rfl⟩:=hxp h0
   have hne0:r.es≠[]:=fun e=>by rw[e]at han;simp at han;omega
   have hrep:∀m,aS S w (List.replicate m (z.cells.toList.map oA)).flatten (List.replicate m z.cells.toList).flatten:=by
     intro m;induction m with
     | zero=>simp[aS]
     | succ m ih=>simp only[List.replicate_succ,List.flatten_cons];exact cZ _ _ _ _ (kG _) ih
   obtain⟨g',n2,c2,w',hloc',hst,q1,q2⟩:=hS.storeE hk (a:=a) (news:=List.replicate n (z.cells.toList.map oA)) (l:=(List.replicate n z.cells.toList).flatten) (fun c hc=>by rw[List.eq_of_mem_replicate hc];simp;omega) (by rw[List.length_replicate];omega) hne0 hloc (hrep n) (fun u hu=>by
     obtain⟨l,hl,hu⟩:=List.mem_flatten.1 hu;rw[List.eq_of_mem_replicate hl]at hu;exact h1 u hu)
   rw[hloc]at hloc';injection hloc' with i1 _ _;injection i1 with i1;injection i1 with i1;subst i1;rw[List.length_replicate]at q1;refine⟨w',?_,q1,q2⟩;obtain⟨m,rfl⟩:∃m,n=m+1:=⟨n-1,by omega⟩;simp[Builtin.clear_,run_underlying hut,zeroValue,typeInfo,hi,hz,tV z.cells (by omega) (m+1),hst P]
theorem zV{t ty e:TypeId}{i:TypeInfo}{size n c:Nat}{v:Value}{xs:List Value}(ht:P.underlying t=some (.slice e))(hi:P.info? e=some i)(hown:w.ownsRow 0 e size v n xs):
   (Builtin.append_ #[t,t] ty #[v,.slice none 0 c]).run P w=.ok v w:=by
 rcases hown.2 with⟨rfl,rfl⟩|⟨g,cap,cur,rfl,_,_,hnc,_⟩
 · simp[Builtin.append_,run_underlying ht,sizeOf,typeInfo,hi,Builtin.lenOf,Builtin.firstCells]
 · simp[Builtin.append_,run_underlying ht,sizeOf,typeInfo,hi,Builtin.lenOf,Builtin.firstCells,hnc,storeCells]
theorem St.append(hS:St S w H){k:Nat}{r:Row}(hk:H k=some r){ad0:Option Addr}{n0 c0:Nat}(hs0:S.loc k=.slice ad0 n0 c0){t ty:TypeId}{bytes:Nat}(he:bY P t=some (r.e,r.sz,bytes)){news:List (List AV)}{u:Value}(hu:wO S w u news)
   (hlen:dK r.sz news) (hb:(r.es.length+news.length)*bytes≤140737488355328):
   ∃v' w',(Builtin.append_ #[t,t] ty #[S.loc k,u]).run P w=.ok v' w'∧(∃a n c,v'=.slice a n c) ∧
     St (S.addRow v' r.sz) w' (aJ (aJ H k none) S.N (some ⟨r.e,r.sz,r.es++news⟩))∧Grow S w (S.addRow v' r.sz) w':=by
 have hR:=hS.rows k r hk;obtain⟨inf,z,hut,hi,hsz,hby,hpos,hbpos,hz,hzs⟩:=gW he;obtain⟨xs,ho,hr,h1⟩:=hR.sl hs0;obtain⟨ad,c,l,rfl,hl,hl1,hsrc⟩:=hu;have hlen':=gZ.1 hlen;have hll:l.length=news.length*r.sz:=by rw[fT _ _ hl,jL news hlen']
 have hnm:r.es.length+news.length≤140737488355328:=Nat.le_trans (Nat.le_mul_of_pos_right _ hbpos) hb;have key : ∃ v' w', (Builtin.append_ #[t, t] ty #[S.loc k, .slice ad news.length c]).run P w = .ok v' w' ∧ w'.ownsRow 0 r.e r.sz v' (r.es.length + news.length) (xs ++ l) ∧ w.grownBy w' (blk (S.loc k)) ∧
     (blk v'=blk (S.loc k)∨blk v'=some w.heap.size):=by
   cases ad with
   | none=>
     have hn:news=[]:=by
       rcases hsrc with h|⟨b,o,h,_⟩
       · exact h
       · simp at h
     subst hn;have hl0:l=[]:=List.eq_nil_of_length_eq_zero (by rw[hll];simp);subst hl0;exact⟨S.loc k,w,zV hut hi ho,by simpa using ho,World.grownBy.refl w _,.inl rfl⟩
   | some a=>
     have hcells:∀j x,l[j]?=some x→w.cell? (a.add j)=some x:=by
       rcases hsrc with h|⟨b,o,h,hc⟩
       · subst h
         have hl0:l=[]:=List.eq_nil_of_length_eq_zero (by rw[hll];simp);subst hl0;simp
       · injection h with h
         subst h;intro j x hj;rw[Addr.add_lit];exact hc j x hj
     obtain⟨v',w',q1,q2,q3,_,q5⟩:=run_append_own_at (P:=P) w 0 t ty r.e inf z r.sz bytes hut hi hz hsz hby hzs hpos (S.loc k) r.es.length xs ho a news.length c l hll hcells hl1
       (by simp only[maxLen];omega) hb (Nat.zero_le _)
     have hbk:blk (S.loc k)=(S.loc k).ownBlock:=by rw[hs0];exact Xc _ _ _
     have hbv:blk v'=v'.ownBlock:=by
       rcases q2.2 with⟨h,_⟩|⟨_,_,_,h,_⟩ <;> (rw[h];rfl)
     exact⟨v',w',q1,q2,by rw[hbk];exact q3,by rw[hbk,hbv];exact q5⟩
 obtain⟨v',w',q1,q2,q3,q4⟩:=key;have hfree:=hS.free k r hk;have hsame:∀j,S.fz j→w'.heap[j]?=w.heap[j]?:=fun j hj=>q3.block j (hS.fz_lt j hj) (fun e=>hfree j e.symm hj)
 have hkept:eT S w w':=hS.kept hsame;have hle:=S.le_addRow v' r.sz;have hlocN:(S.addRow v' r.sz).loc S.N=v':=by simp[Sg.addRow]
 have hnf:∀g,blk v'=some g→¬S.fz g:=fun g hg hf=>by
   rcases q4 with e|e
   · exact hfree g (e▸hg) hf
   · rw[e]at hg;injection hg with hg;subst hg;exact Nat.lt_irrefl _ (hS.fz_lt _ hf)
 have hold:∀j r',j≠S.N→aJ (aJ H k none) S.N (some ⟨r.e,r.sz,r.es++news⟩) j=some r'→j≠k∧H j=some r':=fun j r' hj h=>by
   rw[aD _ _ _ _ hj]at h;by_cases e:j=k
   · subst e;rw[aB]at h;simp at h
   · rw[aD _ _ _ _ e]at h;exact⟨e,h⟩
 have hblk:∀j r',j≠k→H j=some r'→∀g,blk (S.loc j)=some g→some g≠blk (S.loc k)∧g<w.heap.size:=fun j r' hj hj' g hg=>
   ⟨fun e=>hS.disj j k r' r hj' hk hj g hg e.symm,(hS.rows j r' hj').block_lt hg⟩
 have hvN:∀j r',j≠k→H j=some r'→∀g,blk (S.loc j)=some g→blk v'≠some g:=fun j r' hj hj' g hg e=>by
   obtain⟨e1,e2⟩:=hblk j r' hj hj' g hg;rcases q4 with e'|e'
   · exact e1 (by rw[←e',e])
   · rw[e']at e;injection e with e;omega
 refine⟨v',w',q1,?_,⟨hS.ro_fz,fun j hj=>Nat.lt_of_lt_of_le (hS.fz_lt j hj) q3.size,?_,?_,?_,hS.tabs.keep hle hkept⟩,⟨hle,fun _ h=>h,q3.os,q3.tape,q3.output,q3.size,hsame,fun _ h=>.inl h⟩⟩
 · rcases q2.2 with⟨h,_⟩|⟨g,cap,cur,h,_⟩
   · exact⟨_,_,_,h⟩
   · exact⟨_,_,_,h⟩
 · intro j r' hj
   by_cases e:j=S.N
   · subst e
     rw[aB]at hj;injection hj with hj;subst hj;refine⟨Nat.lt_succ_self _,by simp[Sg.addRow],hpos,?_,.inl ⟨xs++l,?_,?_,?_⟩⟩
     · intro cs hcs
       rcases List.mem_append.1 hcs with hcs|hcs
       · exact hR.len cs hcs
       · exact hlen' cs hcs
     · rw[hlocN,List.length_append];exact q2
     · rw[List.flatten_append]
       exact cZ _ _ _ _ (cX hle hkept _ _ hr) (cX hle hkept _ _ hl)
     · intro x hx
       rcases List.mem_append.1 hx with hx|hx
       · exact h1 x hx
       · exact hl1 x hx
   · obtain⟨e1,e2⟩:=hold j r' e hj
     exact(hS.rows j r' e2).keep hle hkept fun g hg=>q3.block g (hblk j r' e1 e2 g hg).2 (hblk j r' e1 e2 g hg).1
 · intro j r' hj g hg
   by_cases e:j=S.N
   · subst e;rw[hlocN]at hg;exact hnf g hg
   · obtain⟨e1,e2⟩:=hold j r' e hj
     rw[hle.loc j (hS.rows j r' e2).lt]at hg;exact hS.free j r' e2 g hg
 · intro j j' r1 r2 hj hj' hne g hg hg2
   by_cases e:j=S.N
   · subst e
     rw[hlocN]at hg;obtain⟨e1,e2⟩:=hold j' r2 (Ne.symm hne) hj';rw[hle.loc j' (hS.rows j' r2 e2).lt]at hg2;exact hvN j' r2 e1 e2 g hg2 hg
   · obtain⟨e1,e2⟩:=hold j r1 e hj
     rw[hle.loc j (hS.rows j r1 e2).lt]at hg;by_cases e':j'=S.N
     · subst e'
       rw[hlocN]at hg2;exact hvN j r1 e1 e2 g hg hg2
     · obtain⟨e3,e4⟩:=hold j' r2 e' hj'
       rw[hle.loc j' (hS.rows j' r2 e4).lt]at hg2;exact hS.disj j j' r1 r2 e2 e4 hne g hg hg2
theorem Gv{es:List (List AV)}{ad:Option Addr}{n:Nat}(h:rep S w (.cl es) (.slice ad n n)){sz:Nat}(hl:dK sz es):
   ∃l,l.length=es.length*sz∧aS S w es.flatten l∧(∀x∈l,x.oneCell'=true)∧n=es.length∧n≤maxLen∧(es=[]∨∃b o,ad=some ⟨b,o,none⟩∧∀j x,l[j]?=some x→w.cell? ⟨b,o+j,none⟩=some x):=by
 simp only[rep]at h;obtain⟨ad',n',e,rfl,hm,h4⟩:=h;injection e with e1 e2 e3;subst e1 e2;rcases h4 with rfl|⟨b,o,sz',rfl,hb,hs,hels⟩
 · exact⟨[],by simp,by simp[aS],by simp,rfl,hm,.inl rfl⟩
 · obtain⟨l,e1,e2,e3,e4⟩:=kJ _ _ (tL es o hels)
   refine⟨l,?_,e2,e3,rfl,hm,.inr ⟨b,o,rfl,e4⟩⟩;rw[fT _ _ e2,jL es (gZ.1 hl)]
theorem St.appendNew(hS:St S w H){es:List (List AV)}{us:Value}(hus:rep S w (.cl es) us){t ty e:TypeId}{sz bytes:Nat}(he:bY P t=some (e,sz,bytes)){news:List (List AV)}{u:Value}(hu:wO S w u news)(hne:news≠[])
   (hes:dK sz es) (hlen:dK sz news) (hb:(es.length+news.length)*bytes≤140737488355328):
   ∃v' w',(Builtin.append_ #[t,t] ty #[us,u]).run P w=.ok v' w'∧(∃a n c,v'=.slice a n c) ∧
     St (S.addRow v' sz) w' (aJ H S.N (some ⟨e,sz,es++news⟩))∧Grow S w (S.addRow v' sz) w':=by
 obtain⟨inf,z,hut,hi,hsz,hby,hpos,hbpos,hz,hzs⟩:=gW he;have hus0:=hus;simp only[rep]at hus0;obtain⟨ad0,n0,rfl,_⟩:=hus0;obtain⟨l0,hl0,hr0,h10,rfl,hm0,hc0⟩:=Gv hus hes;obtain⟨ad,c,l,rfl,hl,hl1,hsrc⟩:=hu;have hlen':=gZ.1 hlen;have hes':=gZ.1 hes;have hll:l.length=news.length*sz:=by rw[fT _ _ hl,jL news hlen']
 have hn1:0<news.length:=List.length_pos_iff.2 hne;have hnm:es.length+news.length≤140737488355328:=Nat.le_trans (Nat.le_mul_of_pos_right _ hbpos) hb;obtain⟨b,o,rfl,hcell⟩:∃b o,ad=some ⟨b,o,none⟩∧∀j x,l[j]?=some x→w.cell? ⟨b,o+j,none⟩=some x:=by
   rcases hsrc with h|h
   · exact absurd h hne
   · exact h
 have hcells:∀j x,l[j]?=some x→w.cell? ((⟨b,o,none⟩:Addr).add j)=some x:=fun j x hj=>by rw[Addr.add_lit];exact hcell j x hj
 have key:∃v' w',(Builtin.append_ #[t,t] ty #[.slice ad0 es.length es.length,.slice (some ⟨b,o,none⟩) news.length c]).run P w=.ok v' w'∧w'.ownsRow w.heap.size e sz v' (es.length+news.length) (l0++l)∧w.grownBy w' none:=by
   cases ad0 with
   | none=>
     have he0:es=[]:=by
       rcases hc0 with h|⟨_,_,h,_⟩
       · exact h
       · cases h
     subst he0;obtain rfl:l0=[]:=List.eq_nil_of_length_eq_zero (by simpa using hl0);obtain⟨v',w',q1,q2,q3,_⟩:=run_append_own (P:=P) w w.heap.size t ty e inf z sz bytes hut hi hz hsz hby hzs hpos (.slice none 0 0) 0 [] (World.ownsRow_nil w _ e sz) ⟨b,o,none⟩ news.length c l hll hcells hl1 (by simp only[maxLen];omega) hb (Nat.le_refl _);exact⟨v',w',q1,q2,q3⟩
   | some a0=>
     have holds:∀j x,l0[j]?=some x→w.cell? (a0.add j)=some x:=by
       rcases hc0 with h|⟨b0,o0,h,hc⟩
       · subst h
         obtain rfl:l0=[]:=List.eq_nil_of_length_eq_zero (by simpa using hl0);simp
       · injection h with h
         subst h;intro j x hj;rw[Addr.add_lit];exact hc j x hj
     exact run_append_arg_grows (P:=P) w t ty e inf z sz bytes hut hi hz hsz hby hzs hpos a0 es.length es.length l0 hl0 holds ⟨b,o,none⟩ news.length c l hll hcells (by omega) (by simp only[maxLen];omega) hb
 obtain⟨v',w',q1,q2,q3⟩:=key;obtain⟨g,cap,cur,hv,hg0,hg,hnc,hcm,hcs,htk⟩:∃g cap cur,v'=.slice (some ⟨g,0,none⟩) (es.length+news.length) cap∧w.heap.size≤g∧w'.heap[g]?=some (.cells cur e (0,0))∧es.length+news.length≤cap∧cap≤maxLen∧cur.size=cap*sz∧cur.toList.take ((es.length+news.length)*sz)=l0++l:=by
   rcases q2.2 with⟨_,h⟩|⟨g,cap,cur,h1,h2,h3,h4,h5,h6,h7⟩
   · omega
   · exact⟨g,cap,cur,h1,h2,h3,h4,h5,h6,h7⟩
 subst hv;have hsame:∀k,k<w.heap.size→w'.heap[k]?=w.heap[k]?:=fun k hk=>q3.block k hk (by simp)
 have hkept:eT S w w':=fun k hk=>hsame k (hS.fz_lt k (hS.ro_fz k hk))
 have hle:=S.le_addRow (.slice (some ⟨g,0,none⟩) (es.length+news.length) cap) sz;have hlocN:(S.addRow (.slice (some ⟨g,0,none⟩) (es.length+news.length) cap) sz).loc S.N=.slice (some ⟨g,0,none⟩) (es.length+news.length) cap:=by simp[Sg.addRow]
 have hold:∀k r,k≠S.N→aJ H S.N (some ⟨e,sz,es++news⟩) k=some r→H k=some r:=fun k r hk h=>by rwa [aD _ _ _ _ hk]at h
 refine⟨_,w',q1,⟨_,_,_,rfl⟩,⟨hS.ro_fz,fun k hk=>Nat.lt_of_lt_of_le (hS.fz_lt k hk) q3.size,?_,?_,?_,hS.tabs.keep hle hkept⟩,⟨hle,fun _ h=>h,q3.os,q3.tape,q3.output,q3.size,fun k hk=>hsame k (hS.fz_lt k hk),fun _ h=>.inl h⟩⟩
 · intro k r hk
   by_cases e0:k=S.N
   · subst e0
     rw[aB]at hk;injection hk with hk;subst hk;refine⟨Nat.lt_succ_self _,by simp[Sg.addRow],hpos,?_,.inl ⟨l0++l,?_,?_,?_⟩⟩
     · intro cs hcs
       rcases List.mem_append.1 hcs with hcs|hcs
       · exact hes' cs hcs
       · exact hlen' cs hcs
     · rw[hlocN,List.length_append]
       exact⟨by rw[List.length_append,hl0,hll,Nat.add_mul],.inr ⟨g,cap,cur,rfl,Nat.zero_le _,hg,hnc,hcm,hcs,htk⟩⟩
     · rw[List.flatten_append]
       exact cZ _ _ _ _ (cX hle hkept _ _ hr0) (cX hle hkept _ _ hl)
     · intro x hx
       rcases List.mem_append.1 hx with hx|hx
       · exact h10 x hx
       · exact hl1 x hx
   · have hk':=hold k r e0 hk
     exact(hS.rows k r hk').keep hle hkept fun g' hg'=>hsame g' ((hS.rows k r hk').block_lt hg')
 · intro k r hk g' hg'
   by_cases e0:k=S.N
   · subst e0
     rw[hlocN]at hg';simp only[blk,Option.some.injEq]at hg';subst hg';exact fun h=>by have:=hS.fz_lt _ h;omega
   · have hk':=hold k r e0 hk
     rw[hle.loc k (hS.rows k r hk').lt]at hg';exact hS.free k r hk' g' hg'
 · intro k k' r r' hk hk' hne' g' hg' hg2
   by_cases e0:k=S.N
   · subst e0
     rw[hlocN]at hg';simp only[blk,Option.some.injEq]at hg';subst hg';have hk2:=hold k' r' (Ne.symm hne') hk';rw[hle.loc k' (hS.rows k' r' hk2).lt]at hg2;have:=(hS.rows k' r' hk2).block_lt hg2;omega
   · have hk2:=hold k r e0 hk
     rw[hle.loc k (hS.rows k r hk2).lt]at hg';by_cases e1:k'=S.N
     · subst e1
       rw[hlocN]at hg2;simp only[blk,Option.some.injEq]at hg2;subst hg2;have:=(hS.rows k r hk2).block_lt hg';omega
     · have hk3:=hold k' r' e1 hk'
       rw[hle.loc k' (hS.rows k' r' hk3).lt]at hg2;exact hS.disj k k' r r' hk2 hk3 hne' g' hg' hg2
end
end Go.Aw
end
section
namespace Go.Aw
open Go.RowKit
mutual
inductive Conv (H:aF):AV→AV→Prop
 | refl (x:AV):Conv H x x
 | any (x:AV):Conv H x .any
 | row (k:Nat) (r:Row) (es:List (List AV)):H k=some r→ConvE H r.es es→Conv H (.os k) (.sl es)
 | sl (es es':List (List AV)):ConvE H es es'→Conv H (.sl es) (.sl es')
 | agg (cs cs':List AV):ConvL H cs cs'→Conv H (.agg cs) (.agg cs')
 | tup (cs cs':List AV):ConvL H cs cs'→Conv H (.tup cs) (.tup cs')
 | ptr (k i f:Nat) (r:Row) (cs:List AV):H k=some r→i<r.es.length→ConvL H (r.es.getD i []) cs→Conv H (.op k i f) (.rp cs f)
 | fn (f:FuncId) (cap cap':List AV):ConvL H cap cap'→Conv H (.fn f cap) (.fn f cap')
inductive ConvL (H:aF):List AV→List AV→Prop
 | nil:ConvL H [] []
 | cons (x y:AV) (r s:List AV):Conv H x y→ConvL H r s→ConvL H (x::r) (y::s)
inductive ConvE (H:aF):List (List AV)→List (List AV)→Prop
 | nil:ConvE H [] []
 | cons (x y:List AV) (r s:List (List AV)):ConvL H x y→ConvE H r s→ConvE H (x::r) (y::s)
end
theorem ConvL.refl{H:aF}:∀l,ConvL H l l
 | []=>.nil
 | x::r=>.cons x x r r (.refl x) (ConvL.refl r)
theorem ConvE.refl{H:aF}:∀l,ConvE H l l
 | []=>.nil
 | x::r=>.cons x x r r (ConvL.refl x) (ConvE.refl r)
def Sg.froze(S:Sg)(H:aF):Sg:=
 { S with ro:=fun g=>S.ro g∨∃k r,H k=some r∧blk (S.loc k)=some g,fz:=fun g=>S.fz g∨∃k r,H k=some r∧blk (S.loc k)=some g }
theorem Sg.le_froze(S:Sg)(H:aF):S.le (S.froze H):=⟨fun _ h=>.inl h,Nat.le_refl _,fun _ _=>rfl,fun _ _=>rfl⟩
section
variable{S:Sg}{w:World}{H:aF}
theorem ConvE.len:∀{es es':List (List AV)},ConvE H es es'→es'.length=es.length
 | _,_,.nil=>rfl
 | _,_,.cons _ _ _ _ _ h=>by simp[ConvE.len h]
mutual
theorem Conv.rep(hS:St S w H):∀{x y:AV} {u:Value},Conv H x y→rep S w x u→Aw.rep (S.froze H) w y u
 | _,_,_,.refl x,h=>jO (S.le_froze H) (eT.refl S w) _ _ h
 | _,_,_,.any x,_=>by simp only[Aw.rep]
 | _,_,u,.row k r es hk he,h=>by
   simp only[Aw.rep]at h ⊢;obtain⟨_,rfl,_,_,_,hloc0⟩:=h;have hR:=hS.rows k r hk;obtain⟨xs,ho,hr,h1⟩:=hR.sl hloc0;rcases ho.2 with⟨hv,hn⟩|⟨g,cap,cur,hv,_,h2,h3,h4,h5⟩
   · have h0:=List.eq_nil_of_length_eq_zero hn
     refine⟨none,0,0,hv,by rw[he.len,hn],Nat.le_refl _,Nat.zero_le _,.inl ?_⟩;exact List.eq_nil_of_length_eq_zero (by rw[he.len,hn])
   · refine⟨_,_,cap,hv,he.len,h3,h4,.inr ⟨g,0,r.sz,rfl,.inr ⟨k,r,hk,by rw[hv];rfl⟩,hR.pos,?_⟩⟩
     refine ConvE.rep hS he ?_;refine nK _ _ hR.len (iF _ xs 0 hr h1 fun j u hu=>?_);have:=ho.cells (g:=g) (by rw[hv];rfl) j u hu
     rwa [Addr.add_lit]at this
 | _,_,_,.sl es es' he,h=>by
   simp only[Aw.rep]at h ⊢;obtain⟨ad,n,c,rfl,h1,h2,h3,h4⟩:=h;refine⟨ad,n,c,rfl,by rw[he.len,h1],h2,h3,?_⟩;rcases h4 with h4|⟨b,o,sz,rfl,hb,hs,hels⟩
   · exact .inl (List.eq_nil_of_length_eq_zero (by rw[he.len,h4];rfl))
   · exact .inr ⟨b,o,sz,rfl,.inl hb,hs,ConvE.rep hS he hels⟩
 | _,_,_,.agg cs cs' hc,h=>by
   simp only[Aw.rep]at h ⊢;obtain⟨l,rfl,h1,h2⟩:=h;exact⟨l,rfl,ConvL.rep hS hc h1,h2⟩
 | _,_,_,.tup cs cs' hc,h=>by
   simp only[Aw.rep]at h ⊢;obtain⟨l,rfl,h1⟩:=h;exact⟨l,rfl,ConvL.rep hS hc h1⟩
 | _,_,_,.ptr k i f r cs hk hi hc,h=>by
   simp only[Aw.rep]at h ⊢;obtain⟨_,g,n,c,hloc,rfl⟩:=h;have hR:=hS.rows k r hk;have hne:r.es≠[]:=fun e=>by rw[e]at hi;simp at hi
   obtain⟨g',n',c',hloc',he,_⟩:=hR.els hloc hne;rw[hloc]at hloc';injection hloc' with e1 e2 e3;injection e1 with e1;injection e1 with e1;subst e1;obtain⟨e4,e5⟩:=oU _ 0 i he hi;rw[Nat.zero_add,hR.sz]at e5;exact⟨g,i*S.sz k,rfl,.inr ⟨k,r,hk,by rw[hloc];rfl⟩,(ConvL.cells hS hc e5).1⟩
 | _,_,_,.fn f cap cap' hc,h=>by
   simp only[Aw.rep]at h ⊢;obtain⟨l,rfl,h1⟩:=h;exact⟨l,rfl,ConvL.rep hS hc h1⟩
theorem ConvL.rep(hS:St S w H):∀{x y:List AV} {l:List Value},ConvL H x y→aS S w x l→aS (S.froze H) w y l
 | _,_,_,.nil,h=>h
 | _,_,_,.cons x y r s hx hr,h=>by
   simp only[aS]at h ⊢;obtain⟨u,t,rfl,h1,h2⟩:=h;exact⟨u,t,rfl,Conv.rep hS hx h1,ConvL.rep hS hr h2⟩
theorem ConvL.cells(hS:St S w H){b:Nat}:∀{x y:List AV} {o:Nat},ConvL H x y→cJ S w b o x→cJ (S.froze H) w b o y∧y.length=x.length
 | _,_,_,.nil,_=>⟨trivial,rfl⟩
 | _,_,o,.cons x y r s hx hr,h=>by
   simp only[cJ]at h ⊢;obtain⟨⟨u,h1,h2,h3⟩,h4⟩:=h;obtain⟨e1,e2⟩:=ConvL.cells hS hr h4;exact⟨⟨⟨u,h1,h2,Conv.rep hS hx h3⟩,e1⟩,by simp[e2]⟩
theorem ConvE.rep(hS:St S w H){b sz:Nat}:∀{x y:List (List AV)} {o:Nat},ConvE H x y→gC S w b sz o x→gC (S.froze H) w b sz o y
 | _,_,_,.nil,_=>trivial
 | _,_,o,.cons x y r s hx hr,h=>by
   simp only[gC]at h ⊢;obtain⟨h1,h2,h3⟩:=h;obtain⟨e1,e2⟩:=ConvL.cells hS hx h2;exact⟨by rw[e2,h1],e1,ConvE.rep hS hr h3⟩
end
end
mutual
def fv:AV→Option Value
 | .v x=>some x
 | .tup vs=>(fvL vs).map fun l=>.tuple l.toArray
 | .agg vs=>(fvL vs).map fun l=>.agg l.toArray
 | _=>none
def fvL:List AV→Option (List Value)
 | []=>some []
 | x::r=>match fv x,fvL r with
   | some u,some l=>some (u::l)
   | _,_=>none
end
mutual
theorem KJ{S:Sg}{w:World}:∀{x:AV} {u v:Value},fv x=some v→rep S w x u→u=v
 | .v x,u,v,h,hr=>by
   simp only[fv]at h;injection h with h;subst h;simpa only[rep]using hr
 | .tup vs,u,v,h,hr=>by
   simp only[fv]at h;cases hl:fvL vs with
   | none=>simp[hl]at h
   | some l=>
     simp[hl]at h;subst h;simp only[rep]at hr;obtain⟨l',rfl,h1⟩:=hr;rw[Gg hl h1]
 | .agg vs,u,v,h,hr=>by
   simp only[fv]at h;cases hl:fvL vs with
   | none=>simp[hl]at h
   | some l=>
     simp[hl]at h;subst h;simp only[rep]at hr;obtain⟨l',rfl,h1,_⟩:=hr;rw[Gg hl h1]
 | .any,_,_,h,_=>by simp[fv]at h
 | .sl _,_,_,h,_=>by simp[fv]at h
 | .rp _ _,_,_,h,_=>by simp[fv]at h
 | .os _,_,_,h,_=>by simp[fv]at h
 | .op _ _ _,_,_,h,_=>by simp[fv]at h
 | .gd _ _,_,_,h,_=>by simp[fv]at h
 | .fn _ _,_,_,h,_=>by simp[fv]at h
 | .nf _,_,_,h,_=>by simp[fv]at h
 | .oz _ _ _,_,_,h,_=>by simp[fv]at h
 | .cl _,_,_,h,_=>by simp[fv]at h
theorem Gg{S:Sg}{w:World}:∀{x:List AV} {u v:List Value},fvL x=some v→aS S w x u→u=v
 | [],u,v,h,hr=>by
   simp only[fvL]at h;injection h with h;subst h;simpa only[aS]using hr
 | x::r,u,v,h,hr=>by
   simp only[fvL]at h;cases h1:fv x with
   | none=>simp[h1]at h
   | some a=>
     cases h2:fvL r with
     | none=>simp[h1,h2]at h
     | some l=>
       simp[h1,h2]at h;subst h;simp only[aS]at hr;obtain⟨u',t,rfl,e1,e2⟩:=hr;rw[KJ h1 e1,Gg h2 e2]
end
mutual
theorem SN{S S2:Sg}{w w2:World}:∀{x:AV} {u v:Value},fv x=some v→rep S w x u→rep S2 w2 x u
 | .v x,u,v,h,hr=>by simpa only[rep]using hr
 | .tup vs,u,v,h,hr=>by
   simp only[fv]at h;cases hl:fvL vs with
   | none=>simp[hl]at h
   | some l=>
     simp only[rep]at hr ⊢;obtain⟨l',rfl,h1⟩:=hr;exact⟨l',rfl,Gz hl h1⟩
 | .agg vs,u,v,h,hr=>by
   simp only[fv]at h;cases hl:fvL vs with
   | none=>simp[hl]at h
   | some l=>
     simp only[rep]at hr ⊢;obtain⟨l',rfl,h1,h2⟩:=hr;exact⟨l',rfl,Gz hl h1,h2⟩
 | .any,_,_,h,_=>by simp[fv]at h
 | .sl _,_,_,h,_=>by simp[fv]at h
 | .rp _ _,_,_,h,_=>by simp[fv]at h
 | .os _,_,_,h,_=>by simp[fv]at h
 | .op _ _ _,_,_,h,_=>by simp[fv]at h
 | .gd _ _,_,_,h,_=>by simp[fv]at h
 | .fn _ _,_,_,h,_=>by simp[fv]at h
 | .nf _,_,_,h,_=>by simp[fv]at h
 | .oz _ _ _,_,_,h,_=>by simp[fv]at h
 | .cl _,_,_,h,_=>by simp[fv]at h
theorem Gz{S S2:Sg}{w w2:World}:∀{x:List AV} {u v:List Value},fvL x=some v→aS S w x u→aS S2 w2 x u
 | [],u,v,h,hr=>by simpa only[aS]using hr
 | x::r,u,v,h,hr=>by
   simp only[fvL]at h;cases h1:fv x with
   | none=>simp[h1]at h
   | some a=>
     cases h2:fvL r with
     | none=>simp[h1,h2]at h
     | some l=>
       simp only[aS]at hr ⊢;obtain⟨u',t,rfl,e1,e2⟩:=hr;exact⟨u',t,rfl,SN h1 e1,Gz h2 e2⟩
end
def XH(S:Sg)(w:World)(H:aF)(R:AV→aF→Prop)(e:Ending)(w':World):Prop:=
 ∃v r H' S',e=.returned v∧R r H'∧St S' w' H'∧rep S' w' r v∧Grow S w S' w'∧eC S.N H H'
def bN(P:Program)(f:FuncId)(args:List AV)(H:aF)(R:AV→aF→Prop):Prop:=
 ∀S w (vals:List Value),St S w H→aS S w args vals→Calls P f vals.toArray w (XH S w H R)
def bT:aF:=fun _=>none
def RC(P:Program)(f:FuncId)(args:List AV)(R:AV→aF→Prop):Prop:=
 ∀S w (vals:List Value),St S w bT→(∀k,k<w.heap.size→S.fz k)→aS S w args vals→Calls P f vals.toArray w (XH S w bT R)
def PC(P:Program)(f:FuncId)(args:List AV)(r:AV):Prop:=RC P f args fun x _=>x=r
def NC(P:Program)(f:FuncId)(args:List AV)(row:Row)(mk:Nat→AV):Prop:=RC P f args fun x H'=>∃k,x=mk k∧H' k=some row
def xZ(P:Program)(f:FuncId)(args:List AV)(H:aF)(r:AV):Prop:=∃args',ConvL H args args'∧PC P f args' r∧(fv r).isSome=true
def dB(P:Program)(f:FuncId)(args:List AV)(H:aF)(r:AV):Prop:=xZ P f args H r∨∃x,r=.nf x∧PC P f args x
theorem G8{q:Bool}{r:AV}{K:AV→Prop}(h:(fv r).isSome=true):nfq q r K=K r:=by
 cases q <;> cases r <;> first|rfl|(simp[fv]at h)
theorem HI{q:Bool}{r:AV}{K:AV→Prop}(h:nfq q r K):∃z,K z:=by
 unfold nfq at h;split at h
 · exact h.elim
 · exact⟨_,h⟩
 · exact⟨_,h⟩
section
variable{P:Program}{f:FuncId}{args:List AV}{H:aF}{R K:AV→aF→Prop}
theorem RC.mono(h:RC P f args R)(hr:∀r H',R r H'→K r H'):RC P f args K:=fun S w vals hS hf ha=>
 (h S w vals hS hf ha).mono fun _ _ ⟨v,r,H',S',h1,h2,h3⟩=>⟨v,r,H',S',h1,hr r H' h2,h3⟩
theorem St.drop{S:Sg}{w:World}{H':aF}(h:St S w H)(hs:∀k r,H' k=some r→H k=some r):St S w H':=
 ⟨h.ro_fz,h.fz_lt,fun k r hk=>h.rows k r (hs k r hk),fun k r hk=>h.free k r (hs k r hk),fun k k' r r' hk hk'=>h.disj k k' r r' (hs k r hk) (hs k' r' hk'),h.tabs⟩
theorem RC.conv{r:AV}(h:RC P f args fun x H'=>Conv H' x r):PC P f args r:=fun S w vals hS hf ha=>
 (h S w vals hS hf ha).mono fun e w' ⟨v,x,H',S',he,hx,hS',hv,hg,hn⟩=>by
   refine⟨v,r,bT,S'.froze H',he,rfl,⟨?_,?_,fun k r hk=>by simp[bT]at hk,fun k r hk=>by simp[bT]at hk,fun k k' r r' hk=>by simp[bT]at hk,hS'.tabs.keep (S'.le_froze H') (eT.refl S' w')⟩,hx.rep hS' hv,?_,fun _ _ _=>rfl⟩
   · rintro g (hg'|hg')
     · exact .inl (hS'.ro_fz g hg')
     · exact .inr hg'
   · rintro g (hg'|⟨k,row,hk,hg'⟩)
     · exact hS'.fz_lt g hg'
     · exact(hS'.rows k row hk).block_lt hg'
   · refine⟨Sg.le_trans hg.le (S'.le_froze H'),fun k hk=>.inl (hg.fz k hk),hg.os,hg.tape,hg.output,hg.size,hg.same,?_⟩
     rintro g (hg'|⟨k,row,hk,hg'⟩)
     · exact hg.newro g hg'
     · exact .inr fun h2=>hS'.free k row hk g hg' (hg.fz g h2)
def merge(H H':aF):aF:=fun k=>match H' k with|some r=>some r|none=>H k
theorem RC.frame(h:RC P f args R)(hK:∀r H',R r H'→(∀k row,H' k=some row→H k=none)→∃H'',K r H''∧(∀k row,H'' k=some row→merge H H' k=some row)∧∀k,H k=none→H' k=none→H'' k=none):
   bN P f args H K:=by
 intro S w vals hS ha
 let S0:Sg:={ S with fz:=fun k=>k<w.heap.size }
 have hle0:S.le S0:=⟨fun _ h=>h,Nat.le_refl _,fun _ _=>rfl,fun _ _=>rfl⟩;have hS0:St S0 w bT:=⟨fun k hk=>hS.fz_lt k (hS.ro_fz k hk),fun _ h=>h,fun k r hk=>by simp[bT]at hk,fun k r hk=>by simp[bT]at hk,fun k k' r r' hk=>by simp[bT]at hk,hS.tabs⟩;refine(h S0 w vals hS0 (fun _ h=>h) (cX hle0 (eT.refl S w) _ _ ha)).mono fun e w' ⟨v,x,H',S',he,hx,hS',hv,hg,hn⟩=>?_
 have hnew:∀k row,H' k=some row→S.N≤k:=fun k row hk=>by
   rcases Nat.lt_or_ge k S.N with hlt|hge
   · rw[hn k hlt rfl]at hk;simp at hk
   · exact hge
 have hdead:∀k row,H' k=some row→H k=none:=fun k row hk=>by
   cases hH:H k with
   | none=>rfl
   | some r=>have:=(hS.rows k r hH).lt;have:=hnew k row hk;omega
 obtain⟨H'',hK1,hK2,hK3⟩:=hK x H' hx hdead
 let S'':Sg:={ S' with fz:=fun k=>S.fz k∨(S'.fz k∧w.heap.size≤k)∨S'.ro k }
 have hle'':S'.le S'':=⟨fun _ h=>h,Nat.le_refl _,fun _ _=>rfl,fun _ _=>rfl⟩;have hlt':∀k,k<S.N→S'.loc k=S.loc k:=hg.le.loc;have hleS:S.le S'':=⟨fun k hk=>hg.le.ro k hk,hg.le.N,hg.le.loc,hg.le.sz⟩;have hsame:∀k,k<w.heap.size→w'.heap[k]?=w.heap[k]?:=hg.same;have hkept:eT S w w':=fun k hk=>hsame k (hS.fz_lt k (hS.ro_fz k hk))
 have rowsH:∀k r,H k=some r→RowOK S'' w' k r:=fun k r hk=>(hS.rows k r hk).keep hleS hkept fun g hg'=>hsame g ((hS.rows k r hk).block_lt hg')
 have rowsH':∀k r,H' k=some r→RowOK S'' w' k r:=fun k r hk=>(hS'.rows k r hk).keep hle'' (eT.refl S' w') fun _ _=>rfl
 have blkH:∀k r,H k=some r→∀g,blk (S''.loc k)=some g→blk (S.loc k)=some g∧g<w.heap.size:=fun k r hk g hg'=>by
   have h1:S''.loc k=S.loc k:=hlt' k (hS.rows k r hk).lt;rw[h1]at hg';exact⟨hg',(hS.rows k r hk).block_lt hg'⟩
 have blkH':∀k r,H' k=some r→∀g,blk (S''.loc k)=some g→¬S'.fz g∧w.heap.size≤g:=fun k r hk g hg'=>by
   have h1:=hS'.free k r hk g hg';refine⟨h1,?_⟩;rcases Nat.lt_or_ge g w.heap.size with hlt|hge
   · exact absurd (hg.fz g hlt) h1
   · exact hge
 have rowsM:∀k r,merge H H' k=some r→H' k=some r∨(H k=some r∧H' k=none):=fun k r hk=>by
   unfold merge at hk;cases h':H' k with
   | none=>rw[h']at hk;exact .inr ⟨hk,rfl⟩
   | some r'=>rw[h']at hk;exact .inl hk
 have hM:St S'' w' (merge H H'):=by
   refine⟨fun k hk=>.inr (.inr hk),?_,?_,?_,?_,hS'.tabs⟩
   · rintro k (hk|hk|hk)
     · exact Nat.lt_of_lt_of_le (hS.fz_lt k hk) hg.size
     · exact hS'.fz_lt k hk.1
     · exact hS'.fz_lt k (hS'.ro_fz k hk)
   · intro k r hk
     rcases rowsM k r hk with h'|⟨h',_⟩
     · exact rowsH' k r h'
     · exact rowsH k r h'
   · intro k r hk g hg' hf
     rcases rowsM k r hk with h'|⟨h',_⟩
     · obtain⟨e1,e2⟩:=blkH' k r h' g hg'
       rcases hf with hf|hf|hf
       · have:=hS.fz_lt g hf;omega
       · exact e1 hf.1
       · exact e1 (hS'.ro_fz g hf)
     · obtain⟨e1,e2⟩:=blkH k r h' g hg'
       rcases hf with hf|hf|hf
       · exact hS.free k r h' g e1 hf
       · omega
       · rcases hg.newro g hf with h2|h2
         · exact hS.free k r h' g e1 (hS.ro_fz g h2)
         · exact h2 e2
   · intro k k' r r' hk hk' hne g hg' hg2
     rcases rowsM k r hk with h1|⟨h1,_⟩
     · rcases rowsM k' r' hk' with h2|⟨h2,_⟩
       · exact hS'.disj k k' r r' h1 h2 hne g hg' hg2
       · have:=(blkH' k r h1 g hg').2;have:=(blkH k' r' h2 g hg2).2;omega
     · rcases rowsM k' r' hk' with h2|⟨h2,_⟩
       · have:=(blkH k r h1 g hg').2;have:=(blkH' k' r' h2 g hg2).2;omega
       · exact hS.disj k k' r r' h1 h2 hne g (blkH k r h1 g hg').1 (blkH k' r' h2 g hg2).1
 refine⟨v,x,H'',S'',he,hK1,hM.drop hK2,jO hle'' (eT.refl S' w') _ _ hv,⟨hleS,fun _ h=>.inl h,hg.os,hg.tape,hg.output,hg.size,fun k hk=>hsame k (hS.fz_lt k hk),fun k hk=>(hg.newro k hk).imp id (fun h2 h3=>h2 (hS.fz_lt k h3))⟩,?_⟩
 · intro k hk h0
   exact hK3 k h0 (hn k hk rfl)
theorem PC.use{r:AV}(h:PC P f args r)(hK:K r H):bN P f args H K:=
 RC.frame h fun x H' hx hd=>⟨H,hx▸hK,fun k row hk=>by
   unfold merge;cases h':H' k with
   | none=>exact hk
   | some r'=>rw[hd k r' h']at hk;simp at hk,fun _ h _=>h⟩
theorem NC.use{row:Row}{mk:Nat→AV}(h:NC P f args row mk)(hK:∀k,H k=none→K (mk k) (aJ H k (some row))):bN P f args H K:=
 RC.frame h fun x H' ⟨k,hx,hk⟩ hd=>⟨aJ H k (some row),hx▸hK k (hd k row hk),fun j r hj=>by
   unfold merge;by_cases e:j=k
   · subst e;rw[aB]at hj;rw[hk];exact hj
   · rw[aD _ _ _ _ e]at hj
     cases h':H' j with
     | none=>exact hj
     | some r'=>rw[hd j r' h']at hj;simp at hj,fun j h0 h1=>by
   by_cases e:j=k
   · subst e;rw[hk]at h1;simp at h1
   · rw[aD _ _ _ _ e];exact h0⟩
theorem xZ.val{r:AV}(h:xZ P f args H r):∃v,fv r=some v:=by
 obtain⟨_,_,_,hf⟩:=h;exact Option.isSome_iff_exists.1 hf
theorem xZ.calls{r:AV}(h:xZ P f args H r){v:Value}(hv:fv r=some v){S:Sg}{w:World}{vals:List Value}(hS:St S w H)(ha:aS S w args vals):
   (∀S2 w2,rep S2 w2 r v)∧Calls P f vals.toArray w fun e w'=>e=.returned v∧w'.os=w.os∧w'.tape=w.tape∧w'.output=w.output∧w.heap.size≤w'.heap.size∧∀k,k<w.heap.size→w'.heap[k]?=w.heap[k]?:=by
 obtain⟨args',hc,hp,hf⟩:=h
 let S0:Sg:={ S.froze H with fz:=fun k=>k<w.heap.size }
 have hle0:(S.froze H).le S0:=⟨fun _ h=>h,Nat.le_refl _,fun _ _=>rfl,fun _ _=>rfl⟩;have hS0:St S0 w bT:=⟨fun k hk=>by
   rcases hk with hk|⟨j,r,hj,hg⟩
   · exact hS.fz_lt k (hS.ro_fz k hk)
   · exact(hS.rows j r hj).block_lt hg,fun _ h=>h,fun k r hk=>by simp[bT]at hk,fun k r hk=>by simp[bT]at hk,fun k k' r r' hk=>by simp[bT]at hk,(hS.tabs.keep (S.le_froze H) (eT.refl S w)).keep hle0 (eT.refl _ w)⟩
 have hcalls:=hp S0 w vals hS0 (fun _ h=>h) (cX hle0 (eT.refl _ w) _ _ (hc.rep hS ha));refine⟨fun S2 w2=>?_,hcalls.mono fun e w' ⟨v',x,H',S',he,hx,hS',hv',hg,hn⟩=>?_⟩
 · obtain⟨e,w',fr,⟨v',x,H',S',he,hx,hS',hv',_⟩,_⟩:=hcalls []
   subst hx;have:=KJ hv hv';subst this;exact SN hv hv'
 · subst hx
   have:=KJ hv hv';subst this;exact⟨he,hg.os,hg.tape,hg.output,hg.size,hg.same⟩
theorem St.after{S:Sg}{w w':World}(hS:St S w H)(hs:w.heap.size≤w'.heap.size)(hk:∀k,k<w.heap.size→w'.heap[k]?=w.heap[k]?):St S w' H:=
 ⟨hS.ro_fz,fun k h=>Nat.lt_of_lt_of_le (hS.fz_lt k h) hs,fun k r h=>(hS.rows k r h).keep S.le_refl (fun j hj=>hk j (hS.fz_lt j (hS.ro_fz j hj))) fun g hg=>hk g ((hS.rows k r h).block_lt hg),hS.free,hS.disj,hS.tabs.keep S.le_refl (fun j hj=>hk j (hS.fz_lt j (hS.ro_fz j hj)))⟩
theorem St.grow{S:Sg}{w w':World}(hS:St S w H)(ho:w'.os=w.os)(ht:w'.tape=w.tape)(hu:w'.output=w.output)(hs:w.heap.size≤w'.heap.size)(hk:∀k,k<w.heap.size→w'.heap[k]?=w.heap[k]?):Grow S w S w':=
 ⟨S.le_refl,fun _ h=>h,ho,ht,hu,hs,fun k h=>hk k (hS.fz_lt k h),fun _ h=>.inl h⟩
theorem xZ.use{r:AV}(h:xZ P f args H r)(hK:K r H):bN P f args H K:=by
 intro S w vals hS ha;obtain⟨v,hv'⟩:=h.val;obtain⟨hv,hc⟩:=h.calls hv' hS ha;refine hc.mono fun e w' ⟨he,ho,ht,hu,hs,hk⟩=>⟨v,r,H,S,he,hK,hS.after hs hk,?_,hS.grow ho ht hu hs hk,eC.refl _ _⟩
 exact hv S w'
end
end Go.Aw
end
