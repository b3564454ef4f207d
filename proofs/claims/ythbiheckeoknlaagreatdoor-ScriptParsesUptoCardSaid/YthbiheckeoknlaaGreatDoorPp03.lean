import Derived.Deep.LoopGhost
import Derived.Test.YthbiheckeoknlaaGreatDoorPp02
set_option linter.unusedSimpArgs false
set_option linter.unusedVariables false
set_option linter.defProp false
set_option maxRecDepth 100000
section
namespace Go.Aw
open Go.RowKit
mutual
inductive Conv (H:aC):AV→AV→Prop
 | refl (x:AV):Conv H x x
 | any (x:AV):Conv H x .any
 | row (k:Nat) (r:Row) (es:List (List AV)):H k=some r→ConvE H r.es es→Conv H (.os k) (.sl es)
 | part0 (k a:Nat) (r:Row):H k=some r→Conv H (.oz k a a) (.sl [])
 | sl (es es':List (List AV)):ConvE H es es'→Conv H (.sl es) (.sl es')
 | agg (cs cs':List AV):ConvL H cs cs'→Conv H (.agg cs) (.agg cs')
 | tup (cs cs':List AV):ConvL H cs cs'→Conv H (.tup cs) (.tup cs')
 | ptr (k i f:Nat) (r:Row) (cs:List AV):H k=some r→i<r.es.length→ConvL H (r.es.getD i []) cs→Conv H (.op k i f) (.rp cs f)
 | fn (f:FuncId) (cap cap':List AV):ConvL H cap cap'→Conv H (.fn f cap) (.fn f cap')
inductive ConvL (H:aC):List AV→List AV→Prop
 | nil:ConvL H [] []
 | cons (x y:AV) (r s:List AV):Conv H x y→ConvL H r s→ConvL H (x::r) (y::s)
inductive ConvE (H:aC):List (List AV)→List (List AV)→Prop
 | nil:ConvE H [] []
 | cons (x y:List AV) (r s:List (List AV)):ConvL H x y→ConvE H r s→ConvE H (x::r) (y::s)
end
theorem ConvL.refl{H:aC}:∀l,ConvL H l l
 | []=>.nil
 | x::r=>.cons x x r r (.refl x) (ConvL.refl r)
theorem ConvE.refl{H:aC}:∀l,ConvE H l l
 | []=>.nil
 | x::r=>.cons x x r r (ConvL.refl x) (ConvE.refl r)
def Sg.froze(S:Sg)(H:aC):Sg:=
 { S with ro:=fun g=>S.ro g∨∃k r,H k=some r∧blk (S.loc k)=some g,fz:=fun g=>S.fz g∨∃k r,H k=some r∧blk (S.loc k)=some g }
theorem Sg.le_froze(S:Sg)(H:aC):S.le (S.froze H):=⟨fun _ h=>.inl h,Nat.le_refl _,fun _ _=>rfl,fun _ _=>rfl⟩
section
variable{S:Sg}{w:World}{H:aC}
theorem ConvE.len:∀{es es':List (List AV)},ConvE H es es'→es'.length=es.length
 | _,_,.nil=>rfl
 | _,_,.cons _ _ _ _ _ h=>by simp[ConvE.len h]
mutual
theorem Conv.rep(hS:St S w H):∀{x y:AV} {u:Value},Conv H x y→rep S w x u→Aw.rep (S.froze H) w y u
 | _,_,_,.refl x,h=>gB (S.le_froze H) (fI.refl S w) _ _ h
 | _,_,_,.any x,_=>by simp only[Aw.rep]
 | _,_,u,.row k r es hk he,h=>by
  simp only[Aw.rep]at h ⊢;obtain⟨_,rfl,_,_,_,hloc0⟩:=h;have hR:=hS.rows k r hk;obtain⟨xs,ho,hr,h1⟩:=hR.sl hloc0;rcases ho.2 with⟨hv,hn⟩|⟨g,cap,cur,hv,_,h2,h3,h4,h5⟩
  ·have h0:=List.eq_nil_of_length_eq_zero hn;refine⟨none,0,0,hv,by rw[he.len,hn],Nat.le_refl _,Nat.zero_le _,.inl ?_⟩;exact List.eq_nil_of_length_eq_zero (by rw[he.len,hn])
  ·refine⟨_,_,cap,hv,he.len,h3,h4,.inr ⟨g,0,r.sz,rfl,.inr ⟨k,r,hk,by rw[hv];rfl⟩,hR.pos,?_⟩⟩;refine ConvE.rep hS he ?_;refine lR _ _ hR.len (iK _ xs 0 hr h1 fun j u hu=>?_);have:=ho.cells (g:=g) (by rw[hv];rfl) j u hu
   rwa [Addr.add_lit]at this
 | _,_,_,.part0 k a r hk,h=>by
  simp only[Aw.rep]at h ⊢;obtain⟨_,ad,n,c,ad',cc,hloc,rfl,h1,h2,h3,h4,h5,h6,h7⟩:=h;have hR:=hS.rows k r hk;obtain⟨xs,ho,_,_⟩:=hR.sl hloc;have hc:c≤maxLen:=by
   rcases ho.2 with⟨hv,_⟩|⟨g,cap,cur,hv,_,_,_,h8,_⟩
   ·rw[hloc]at hv;cases hv;exact Nat.zero_le _
   ·rw[hloc]at hv;cases hv;exact h8
  exact⟨ad',a-a,cc,rfl,(Nat.sub_self a).symm,h6,Nat.le_trans h7 (Nat.le_trans (Nat.sub_le c a) hc),.inl trivial⟩
 | _,_,_,.sl es es' he,h=>by
  simp only[Aw.rep]at h ⊢;obtain⟨ad,n,c,rfl,h1,h2,h3,h4⟩:=h;refine⟨ad,n,c,rfl,by rw[he.len,h1],h2,h3,?_⟩;rcases h4 with h4|⟨b,o,sz,rfl,hb,hs,hels⟩
  ·exact .inl (List.eq_nil_of_length_eq_zero (by rw[he.len,h4];rfl))
  ·exact .inr ⟨b,o,sz,rfl,.inl hb,hs,ConvE.rep hS he hels⟩
 | _,_,_,.agg cs cs' hc,h=>by simp only[Aw.rep]at h ⊢;obtain⟨l,rfl,h1,h2⟩:=h;exact⟨l,rfl,ConvL.rep hS hc h1,h2⟩
 | _,_,_,.tup cs cs' hc,h=>by simp only[Aw.rep]at h ⊢;obtain⟨l,rfl,h1⟩:=h;exact⟨l,rfl,ConvL.rep hS hc h1⟩
 | _,_,_,.ptr k i f r cs hk hi hc,h=>by
  simp only[Aw.rep]at h ⊢;obtain⟨_,g,n,c,hloc,rfl⟩:=h;have hR:=hS.rows k r hk;have hne:r.es≠[]:=fun e=>by rw[e]at hi;simp at hi
  obtain⟨g',n',c',hloc',he,_⟩:=hR.els hloc hne;rw[hloc]at hloc';injection hloc' with e1 e2 e3;injection e1 with e1;injection e1 with e1;subst e1;obtain⟨e4,e5⟩:=mW _ 0 i he hi;rw[Nat.zero_add,hR.sz]at e5;exact⟨g,i*S.sz k,rfl,.inr ⟨k,r,hk,by rw[hloc];rfl⟩,(ConvL.cells hS hc e5).1⟩
 | _,_,_,.fn f cap cap' hc,h=>by simp only[Aw.rep]at h ⊢;obtain⟨l,rfl,h1⟩:=h;exact⟨l,rfl,ConvL.rep hS hc h1⟩
theorem ConvL.rep(hS:St S w H):∀{x y:List AV} {l:List Value},ConvL H x y→aV S w x l→aV (S.froze H) w y l
 | _,_,_,.nil,h=>h
 | _,_,_,.cons x y r s hx hr,h=>by simp only[aV]at h ⊢;obtain⟨u,t,rfl,h1,h2⟩:=h;exact⟨u,t,rfl,Conv.rep hS hx h1,ConvL.rep hS hr h2⟩
theorem ConvL.cells(hS:St S w H){b:Nat}:∀{x y:List AV} {o:Nat},ConvL H x y→cR S w b o x→cR (S.froze H) w b o y∧y.length=x.length
 | _,_,_,.nil,_=>⟨trivial,rfl⟩
 | _,_,o,.cons x y r s hx hr,h=>by simp only[cR]at h ⊢;obtain⟨⟨u,h1,h2,h3⟩,h4⟩:=h;obtain⟨e1,e2⟩:=ConvL.cells hS hr h4;exact⟨⟨⟨u,h1,h2,Conv.rep hS hx h3⟩,e1⟩,by simp[e2]⟩
theorem ConvE.rep(hS:St S w H){b sz:Nat}:∀{x y:List (List AV)} {o:Nat},ConvE H x y→fV S w b sz o x→fV (S.froze H) w b sz o y
 | _,_,_,.nil,_=>trivial
 | _,_,o,.cons x y r s hx hr,h=>by simp only[fV]at h ⊢;obtain⟨h1,h2,h3⟩:=h;obtain⟨e1,e2⟩:=ConvL.cells hS hx h2;exact⟨by rw[e2,h1],e1,ConvE.rep hS hr h3⟩
end
end
mutual
def fv:AV→Option Value
 | .v x=>some x
 | .tup vs=>(fvL vs).map fun l=>.tuple l.toArray
 | .agg vs=>(fvL vs).map fun l=>.agg l.toArray
 | _=>none
def fvL:List AV→Option (List Value)
 | []=>some []
 | x::r=>match fv x,fvL r with
   | some u,some l=>some (u::l)
   | _,_=>none
end
mutual
theorem Jj{S:Sg}{w:World}:∀{x:AV} {u v:Value},fv x=some v→rep S w x u→u=v
 | .v x,u,v,h,hr=>by simp only[fv]at h;injection h with h;subst h;simpa only[rep]using hr
 | .tup vs,u,v,h,hr=>by
  simp only[fv]at h;cases hl:fvL vs with
  | none=>simp[hl]at h
  | some l=>simp[hl]at h;subst h;simp only[rep]at hr;obtain⟨l',rfl,h1⟩:=hr;rw[Ft hl h1]
 | .agg vs,u,v,h,hr=>by
  simp only[fv]at h;cases hl:fvL vs with
  | none=>simp[hl]at h
  | some l=>simp[hl]at h;subst h;simp only[rep]at hr;obtain⟨l',rfl,h1,_⟩:=hr;rw[Ft hl h1]
 | .any,_,_,h,_=>by simp[fv]at h
 | .sl _,_,_,h,_=>by simp[fv]at h
 | .rp _ _,_,_,h,_=>by simp[fv]at h
 | .os _,_,_,h,_=>by simp[fv]at h
 | .op _ _ _,_,_,h,_=>by simp[fv]at h
 | .gd _ _,_,_,h,_=>by simp[fv]at h
 | .fn _ _,_,_,h,_=>by simp[fv]at h
 | .nf _,_,_,h,_=>by simp[fv]at h
 | .oz _ _ _,_,_,h,_=>by simp[fv]at h
 | .cl _,_,_,h,_=>by simp[fv]at h
theorem Ft{S:Sg}{w:World}:∀{x:List AV} {u v:List Value},fvL x=some v→aV S w x u→u=v
 | [],u,v,h,hr=>by simp only[fvL]at h;injection h with h;subst h;simpa only[aV]using hr
 | x::r,u,v,h,hr=>by
  simp only[fvL]at h;cases h1:fv x with
  | none=>simp[h1]at h
  | some a=>
   cases h2:fvL r with
   | none=>simp[h1,h2]at h
   | some l=>simp[h1,h2]at h;subst h;simp only[aV]at hr;obtain⟨u',t,rfl,e1,e2⟩:=hr;rw[Jj h1 e1,Ft h2 e2]
end
mutual
theorem Nz{S S2:Sg}{w w2:World}:∀{x:AV} {u v:Value},fv x=some v→rep S w x u→rep S2 w2 x u
 | .v x,u,v,h,hr=>by simpa only[rep]using hr
 | .tup vs,u,v,h,hr=>by
  simp only[fv]at h;cases hl:fvL vs with
  | none=>simp[hl]at h
  | some l=>simp only[rep]at hr ⊢;obtain⟨l',rfl,h1⟩:=hr;exact⟨l',rfl,Fy hl h1⟩
 | .agg vs,u,v,h,hr=>by
  simp only[fv]at h;cases hl:fvL vs with
  | none=>simp[hl]at h
  | some l=>simp only[rep]at hr ⊢;obtain⟨l',rfl,h1,h2⟩:=hr;exact⟨l',rfl,Fy hl h1,h2⟩
 | .any,_,_,h,_=>by simp[fv]at h
 | .sl _,_,_,h,_=>by simp[fv]at h
 | .rp _ _,_,_,h,_=>by simp[fv]at h
 | .os _,_,_,h,_=>by simp[fv]at h
 | .op _ _ _,_,_,h,_=>by simp[fv]at h
 | .gd _ _,_,_,h,_=>by simp[fv]at h
 | .fn _ _,_,_,h,_=>by simp[fv]at h
 | .nf _,_,_,h,_=>by simp[fv]at h
 | .oz _ _ _,_,_,h,_=>by simp[fv]at h
 | .cl _,_,_,h,_=>by simp[fv]at h
theorem Fy{S S2:Sg}{w w2:World}:∀{x:List AV} {u v:List Value},fvL x=some v→aV S w x u→aV S2 w2 x u
 | [],u,v,h,hr=>by simpa only[aV]using hr
 | x::r,u,v,h,hr=>by
  simp only[fvL]at h;cases h1:fv x with
  | none=>simp[h1]at h
  | some a=>
   cases h2:fvL r with
   | none=>simp[h1,h2]at h
   | some l=>simp only[aV]at hr ⊢;obtain⟨u',t,rfl,e1,e2⟩:=hr;exact⟨u',t,rfl,Nz h1 e1,Fy h2 e2⟩
end
def FQ(S:Sg)(w:World)(H:aC)(R:AV→aC→Prop)(e:Ending)(w':World):Prop:=
 ∃v r H' S',e=.returned v∧R r H'∧St S' w' H'∧rep S' w' r v∧Grow S w S' w'∧dO S.N H H'
def cK(P:Program)(f:FuncId)(args:List AV)(H:aC)(R:AV→aC→Prop):Prop:=
 ∀S w (vals:List Value),St S w H→aV S w args vals→Calls P f vals.toArray w (FQ S w H R)
def NT(pv:Value)(Z:aC→Prop)(S:Sg)(w:World)(H:aC)(e:Ending)(w':World):Prop:=
 ∃H' S',e=.panicked [{ v:=pv,recovered:=false }]∧Z H'∧St S' w' H'∧Grow S w S' w'∧dO S.N H H'
def cQ(P:Program)(pv:Value)(Z:aC→Prop)(f:FuncId)(args:List AV)(H:aC)(R:AV→aC→Prop):Prop:=
 ∀S w (vals:List Value),St S w H→aV S w args vals→Calls P f vals.toArray w fun e w'=>FQ S w H R e w'∨NT pv Z S w H e w'
theorem cK.x{P:Program}{pv:Value}{Z:aC→Prop}{f:FuncId}{args:List AV}{H:aC}{R:AV→aC→Prop}(h:cK P f args H R):cQ P pv Z f args H R:=
 fun S w vals hS ha=>(h S w vals hS ha).mono fun _ _ h=>.inl h
theorem IW(P:Program)(pv:Value):cQ P pv (fun _=>False)=cK P:=by funext f args H R;refine propext ⟨fun h S w vals hS ha=>(h S w vals hS ha).mono fun e w' h=>h.elim id fun⟨_,_,_,hz,_⟩=>hz.elim,fun h=>h.x⟩
def PW(pv:Value)(Z:aC→Prop)(S0:Sg)(w0:World)(H0:aC)(ch:List PanicEntry)(w:World):Prop:=
 ch=[{ v:=pv,recovered:=false }]∧∃S' H',Z H'∧St S' w H'∧Grow S0 w0 S' w∧dO S0.N H0 H'
theorem PW.trans{pv:Value}{Z:aC→Prop}{S0 S:Sg}{w0 w w':World}{H0 H:aC}{ch:List PanicEntry}(h:PW pv Z S w H ch w')(hG:Grow S0 w0 S w)(hN:dO S0.N H0 H):PW pv Z S0 w0 H0 ch w':=by obtain⟨h1,S',H',h2,h3,h4,h5⟩:=h;exact⟨h1,S',H',h2,h3,hG.trans h4,hN.trans h5 hG.le.N⟩
def bV:aC:=fun _=>none
def RC(P:Program)(f:FuncId)(args:List AV)(R:AV→aC→Prop):Prop:=
 ∀S w (vals:List Value),St S w bV→(∀k,k<w.heap.size→S.fz k)→aV S w args vals→Calls P f vals.toArray w (FQ S w bV R)
def PC(P:Program)(f:FuncId)(args:List AV)(r:AV):Prop:=RC P f args fun x _=>x=r
def NC(P:Program)(f:FuncId)(args:List AV)(row:Row)(mk:Nat→AV):Prop:=RC P f args fun x H'=>∃k,x=mk k∧H' k=some row
def pH(P:Program)(f:FuncId)(args:List AV)(H:aC)(r:AV):Prop:=∃args',ConvL H args args'∧PC P f args' r∧(fv r).isSome=true
def dE(P:Program)(f:FuncId)(args:List AV)(H:aC)(r:AV):Prop:=pH P f args H r∨∃x,r=.nf x∧PC P f args x
theorem Ir{q:Bool}{r:AV}{K:AV→Prop}(h:(fv r).isSome=true):nfq q r K=K r:=by cases q <;> cases r <;> first|rfl|(simp[fv]at h)
theorem GY{q:Bool}{r:AV}{K:AV→Prop}(h:nfq q r K):∃z,K z:=by
 unfold nfq at h;split at h
 ·exact h.elim
 ·exact⟨_,h⟩
 ·exact⟨_,h⟩
section
variable{P:Program}{f:FuncId}{args:List AV}{H:aC}{R K:AV→aC→Prop}
theorem RC.mono(h:RC P f args R)(hr:∀r H',R r H'→K r H'):RC P f args K:=fun S w vals hS hf ha=>(h S w vals hS hf ha).mono fun _ _ ⟨v,r,H',S',h1,h2,h3⟩=>⟨v,r,H',S',h1,hr r H' h2,h3⟩
theorem St.drop{S:Sg}{w:World}{H':aC}(h:St S w H)(hs:∀k r,H' k=some r→H k=some r):St S w H':=
 ⟨h.ro_fz,h.fz_lt,fun k r hk=>h.rows k r (hs k r hk),fun k r hk=>h.free k r (hs k r hk),fun k k' r r' hk hk'=>h.disj k k' r r' (hs k r hk) (hs k' r' hk'),h.tabs⟩
theorem RC.conv{r:AV}(h:RC P f args fun x H'=>Conv H' x r):PC P f args r:=fun S w vals hS hf ha=>
 (h S w vals hS hf ha).mono fun e w' ⟨v,x,H',S',he,hx,hS',hv,hg,hn⟩=>by
  refine⟨v,r,bV,S'.froze H',he,rfl,⟨?_,?_,fun k r hk=>by simp[bV]at hk,fun k r hk=>by simp[bV]at hk,fun k k' r r' hk=>by simp[bV]at hk,hS'.tabs.keep (S'.le_froze H') (fI.refl S' w')⟩,hx.rep hS' hv,?_,fun _ _ _=>rfl⟩
  ·rintro g (hg'|hg')
   ·exact .inl (hS'.ro_fz g hg')
   ·exact .inr hg'
  ·rintro g (hg'|⟨k,row,hk,hg'⟩)
   ·exact hS'.fz_lt g hg'
   ·exact(hS'.rows k row hk).block_lt hg'
  ·refine⟨Sg.le_trans hg.le (S'.le_froze H'),fun k hk=>.inl (hg.fz k hk),hg.os,hg.tape,hg.output,hg.size,hg.same,?_⟩;rintro g (hg'|⟨k,row,hk,hg'⟩)
   ·exact hg.newro g hg'
   ·exact .inr fun h2=>hS'.free k row hk g hg' (hg.fz g h2)
def merge(H H':aC):aC:=fun k=>match H' k with|some r=>some r|none=>H k
theorem RC.frame(h:RC P f args R)(hK:∀r H',R r H'→(∀k row,H' k=some row→H k=none)→∃H'',K r H''∧(∀k row,H'' k=some row→merge H H' k=some row)∧∀k,H k=none→H' k=none→H'' k=none):
  cK P f args H K:=by
 intro S w vals hS ha
 let S0:Sg:={ S with fz:=fun k=>k<w.heap.size }
 have hle0:S.le S0:=⟨fun _ h=>h,Nat.le_refl _,fun _ _=>rfl,fun _ _=>rfl⟩;have hS0:St S0 w bV:=⟨fun k hk=>hS.fz_lt k (hS.ro_fz k hk),fun _ h=>h,fun k r hk=>by simp[bV]at hk,fun k r hk=>by simp[bV]at hk,fun k k' r r' hk=>by simp[bV]at hk,hS.tabs⟩;refine(h S0 w vals hS0 (fun _ h=>h) (dN hle0 (fI.refl S w) _ _ ha)).mono fun e w' ⟨v,x,H',S',he,hx,hS',hv,hg,hn⟩=>?_
 have hnew:∀k row,H' k=some row→S.N≤k:=fun k row hk=>by
  rcases Nat.lt_or_ge k S.N with hlt|hge
  ·rw[hn k hlt rfl]at hk;simp at hk
  ·exact hge
 have hdead:∀k row,H' k=some row→H k=none:=fun k row hk=>by
  cases hH:H k with
  | none=>rfl
  | some r=>have:=(hS.rows k r hH).lt;have:=hnew k row hk;omega
 obtain⟨H'',hK1,hK2,hK3⟩:=hK x H' hx hdead
 let S'':Sg:={ S' with fz:=fun k=>S.fz k∨(S'.fz k∧w.heap.size≤k)∨S'.ro k }
 have hle'':S'.le S'':=⟨fun _ h=>h,Nat.le_refl _,fun _ _=>rfl,fun _ _=>rfl⟩;have hlt':∀k,k<S.N→S'.loc k=S.loc k:=hg.le.loc;have hleS:S.le S'':=⟨fun k hk=>hg.le.ro k hk,hg.le.N,hg.le.loc,hg.le.sz⟩;have hsame:∀k,k<w.heap.size→w'.heap[k]?=w.heap[k]?:=hg.same;have hkept:fI S w w':=fun k hk=>hsame k (hS.fz_lt k (hS.ro_fz k hk))
 have rowsH:∀k r,H k=some r→RowOK S'' w' k r:=fun k r hk=>(hS.rows k r hk).keep hleS hkept fun g hg'=>hsame g ((hS.rows k r hk).block_lt hg')
 have rowsH':∀k r,H' k=some r→RowOK S'' w' k r:=fun k r hk=>(hS'.rows k r hk).keep hle'' (fI.refl S' w') fun _ _=>rfl
 have blkH:∀k r,H k=some r→∀g,blk (S''.loc k)=some g→blk (S.loc k)=some g∧g<w.heap.size:=fun k r hk g hg'=>by have h1:S''.loc k=S.loc k:=hlt' k (hS.rows k r hk).lt;rw[h1]at hg';exact⟨hg',(hS.rows k r hk).block_lt hg'⟩
 have blkH':∀k r,H' k=some r→∀g,blk (S''.loc k)=some g→¬S'.fz g∧w.heap.size≤g:=fun k r hk g hg'=>by
  have h1:=hS'.free k r hk g hg';refine⟨h1,?_⟩;rcases Nat.lt_or_ge g w.heap.size with hlt|hge
  ·exact absurd (hg.fz g hlt) h1
  ·exact hge
 have rowsM:∀k r,merge H H' k=some r→H' k=some r∨(H k=some r∧H' k=none):=fun k r hk=>by
  unfold merge at hk;cases h':H' k with
  | none=>rw[h']at hk;exact .inr ⟨hk,rfl⟩
  | some r'=>rw[h']at hk;exact .inl hk
 have hM:St S'' w' (merge H H'):=by
  refine⟨fun k hk=>.inr (.inr hk),?_,?_,?_,?_,hS'.tabs⟩
  ·rintro k (hk|hk|hk)
   ·exact Nat.lt_of_lt_of_le (hS.fz_lt k hk) hg.size
   ·exact hS'.fz_lt k hk.1
   ·exact hS'.fz_lt k (hS'.ro_fz k hk)
  ·intro k r hk;rcases rowsM k r hk with h'|⟨h',_⟩
   ·exact rowsH' k r h'
   ·exact rowsH k r h'
  ·intro k r hk g hg' hf;rcases rowsM k r hk with h'|⟨h',_⟩
   ·obtain⟨e1,e2⟩:=blkH' k r h' g hg';rcases hf with hf|hf|hf
    ·have:=hS.fz_lt g hf;omega
    ·exact e1 hf.1
    ·exact e1 (hS'.ro_fz g hf)
   ·obtain⟨e1,e2⟩:=blkH k r h' g hg';rcases hf with hf|hf|hf
    ·exact hS.free k r h' g e1 hf
    ·omega
    ·rcases hg.newro g hf with h2|h2
     ·exact hS.free k r h' g e1 (hS.ro_fz g h2)
     ·exact h2 e2
  ·intro k k' r r' hk hk' hne g hg' hg2;rcases rowsM k r hk with h1|⟨h1,_⟩
   ·rcases rowsM k' r' hk' with h2|⟨h2,_⟩
    ·exact hS'.disj k k' r r' h1 h2 hne g hg' hg2
    ·have:=(blkH' k r h1 g hg').2;have:=(blkH k' r' h2 g hg2).2;omega
   ·rcases rowsM k' r' hk' with h2|⟨h2,_⟩
    ·have:=(blkH k r h1 g hg').2;have:=(blkH' k' r' h2 g hg2).2;omega
    ·exact hS.disj k k' r r' h1 h2 hne g (blkH k r h1 g hg').1 (blkH k' r' h2 g hg2).1
 refine⟨v,x,H'',S'',he,hK1,hM.drop hK2,gB hle'' (fI.refl S' w') _ _ hv,⟨hleS,fun _ h=>.inl h,hg.os,hg.tape,hg.output,hg.size,fun k hk=>hsame k (hS.fz_lt k hk),fun k hk=>(hg.newro k hk).imp id (fun h2 h3=>h2 (hS.fz_lt k h3))⟩,?_⟩
 ·intro k hk h0;exact hK3 k h0 (hn k hk rfl)
theorem PC.use{r:AV}(h:PC P f args r)(hK:K r H):cK P f args H K:=
 RC.frame h fun x H' hx hd=>⟨H,hx▸hK,fun k row hk=>by
  unfold merge;cases h':H' k with
  | none=>exact hk
  | some r'=>rw[hd k r' h']at hk;simp at hk,fun _ h _=>h⟩
theorem NC.use{row:Row}{mk:Nat→AV}(h:NC P f args row mk)(hK:∀k,H k=none→K (mk k) (bG H k (some row))):cK P f args H K:=
 RC.frame h fun x H' ⟨k,hx,hk⟩ hd=>⟨bG H k (some row),hx▸hK k (hd k row hk),fun j r hj=>by
  unfold merge;by_cases e:j=k
  ·subst e;rw[aD]at hj;rw[hk];exact hj
  ·rw[aK _ _ _ _ e]at hj;cases h':H' j with
   | none=>exact hj
   | some r'=>rw[hd j r' h']at hj;simp at hj,fun j h0 h1=>by
  by_cases e:j=k
  ·subst e;rw[hk]at h1;simp at h1
  ·rw[aK _ _ _ _ e];exact h0⟩
theorem pH.val{r:AV}(h:pH P f args H r):∃v,fv r=some v:=by obtain⟨_,_,_,hf⟩:=h;exact Option.isSome_iff_exists.1 hf
theorem pH.calls{r:AV}(h:pH P f args H r){v:Value}(hv:fv r=some v){S:Sg}{w:World}{vals:List Value}(hS:St S w H)(ha:aV S w args vals):
  (∀S2 w2,rep S2 w2 r v)∧Calls P f vals.toArray w fun e w'=>e=.returned v∧w'.os=w.os∧w'.tape=w.tape∧w'.output=w.output∧w.heap.size≤w'.heap.size∧∀k,k<w.heap.size→w'.heap[k]?=w.heap[k]?:=by
 obtain⟨args',hc,hp,hf⟩:=h
 let S0:Sg:={ S.froze H with fz:=fun k=>k<w.heap.size }
 have hle0:(S.froze H).le S0:=⟨fun _ h=>h,Nat.le_refl _,fun _ _=>rfl,fun _ _=>rfl⟩;have hS0:St S0 w bV:=⟨fun k hk=>by
  rcases hk with hk|⟨j,r,hj,hg⟩
  ·exact hS.fz_lt k (hS.ro_fz k hk)
  ·exact(hS.rows j r hj).block_lt hg,fun _ h=>h,fun k r hk=>by simp[bV]at hk,fun k r hk=>by simp[bV]at hk,fun k k' r r' hk=>by simp[bV]at hk,(hS.tabs.keep (S.le_froze H) (fI.refl S w)).keep hle0 (fI.refl _ w)⟩
 have hcalls:=hp S0 w vals hS0 (fun _ h=>h) (dN hle0 (fI.refl _ w) _ _ (hc.rep hS ha));refine⟨fun S2 w2=>?_,hcalls.mono fun e w' ⟨v',x,H',S',he,hx,hS',hv',hg,hn⟩=>?_⟩
 ·obtain⟨e,w',fr,⟨v',x,H',S',he,hx,hS',hv',_⟩,_⟩:=hcalls [];subst hx;have:=Jj hv hv';subst this;exact Nz hv hv'
 ·subst hx;have:=Jj hv hv';subst this;exact⟨he,hg.os,hg.tape,hg.output,hg.size,hg.same⟩
theorem St.after{S:Sg}{w w':World}(hS:St S w H)(hs:w.heap.size≤w'.heap.size)(hk:∀k,k<w.heap.size→w'.heap[k]?=w.heap[k]?):St S w' H:=
 ⟨hS.ro_fz,fun k h=>Nat.lt_of_lt_of_le (hS.fz_lt k h) hs,fun k r h=>(hS.rows k r h).keep S.le_refl (fun j hj=>hk j (hS.fz_lt j (hS.ro_fz j hj))) fun g hg=>hk g ((hS.rows k r h).block_lt hg),hS.free,hS.disj,hS.tabs.keep S.le_refl (fun j hj=>hk j (hS.fz_lt j (hS.ro_fz j hj)))⟩
theorem St.grow{S:Sg}{w w':World}(hS:St S w H)(ho:w'.os=w.os)(ht:w'.tape=w.tape)(hu:w'.output=w.output)(hs:w.heap.size≤w'.heap.size)(hk:∀k,k<w.heap.size→w'.heap[k]?=w.heap[k]?):Grow S w S w':=
 ⟨S.le_refl,fun _ h=>h,ho,ht,hu,hs,fun k h=>hk k (hS.fz_lt k h),fun _ h=>.inl h⟩
theorem pH.use{r:AV}(h:pH P f args H r)(hK:K r H):cK P f args H K:=by
 intro S w vals hS ha;obtain⟨v,hv'⟩:=h.val;obtain⟨hv,hc⟩:=h.calls hv' hS ha;refine hc.mono fun e w' ⟨he,ho,ht,hu,hs,hk⟩=>⟨v,r,H,S,he,hK,hS.after hs hk,?_,hS.grow ho ht hu hs hk,dO.refl _ _⟩
 exact hv S w'
end
end Go.Aw
end
section
set_option linter.unusedSectionVars false
namespace Go.Aw
open Go.RowKit
class Nail where
 s:Nat
class NailD [Nail] (d:Option Nat):Prop where
 ne:d≠some Nail.s
abbrev DT:=List Deferred×Value
def DI[Nail](D:DT)(a:Act):Prop:=a.defers=D.1∧a.tmps.getD Nail.s undef=D.2
theorem DI.put[Nail]{D:DT}{a:Act}{d:Option Nat}{v:Value}[h:NailD d](hd:DI D a):DI D (a.put d v):=by
 cases d with
 | none=>exact hd
 | some t=>
  refine⟨hd.1,?_⟩;have:t≠Nail.s:=fun e=>h.ne (by rw[e])
  have:=hd.2;simp_all [Act.put,Array.getD_eq_getD_getElem?,Array.getElem?_setIfInBounds]
def Rel[Nail](D:DT)(n:Nat)(S0:Sg)(w0:World)(H0:aC)(ρ:Env)(H:aC)(a:Act)(w:World):Prop:=
 ∃S,St S w H∧FR S w ρ a∧Grow S0 w0 S w∧dO S0.N H0 H∧DI D a∧a.tmps.size=n
def ST(n:Nat):Option Nat→Bool
 | some d=>decide (d<n)
 | none=>true
def gO[Nail](n:Nat)(o:Oper):Bool:=o.op.operands.all (opB n)&&(ST n o.dst&&o.dst != some Nail.s)
section
variable[Nail]{D:DT}{P:Program}{n:Nat}{S0:Sg}{w0:World}{H0:aC}{mt:Nat→Bool}{ops:Array Oper}
theorem qQ{o:Oper}(h:gO n o=true):(∀x∈o.op.operands,opB n x=true)∧ST n o.dst=true:=by simp only[gO,Bool.and_eq_true]at h;exact⟨fun x hx=>Array.all_eq_true_iff_forall_mem.1 h.1 x hx,h.2.1⟩
theorem fK{o:Oper}(h:gO n o=true):NailD o.dst:=by simp only[gO,Bool.and_eq_true,bne_iff_ne]at h;exact⟨h.2.2⟩
theorem sC(a:Act)(d:Option Nat)(v:Value):(a.put d v).tmps.size=a.tmps.size:=by cases d <;> simp[Act.put]
theorem Kr(a:Act)(d:Option Nat)(v:Value):(a.put d v).defers=a.defers:=by cases d <;> simp[Act.put]
theorem qX{S:Sg}{w:World}{ρ:Env}{a:Act}{o:Oper}{K:Option Bool→Prop}(hops:∀o∈ops,gO n o=true)(hF:FR S w ρ a)(hn:a.tmps.size=n)(h:bZ ops ρ o.guard K):
  ∃G,K G∧(Region.wanted o (yielded ops a.tmps)=true↔gt G):=by
 unfold bZ at h;unfold Region.wanted;cases hg:o.guard with
 | none=>rw[hg]at h;exact⟨none,h,by simp[gt]⟩
 | some jw=>
  obtain⟨j,want⟩:=jw;rw[hg]at h;simp only at h;cases hd:(ops[j]?).bind (·.dst)with
  | none=>rw[hd]at h;exact h.elim
  | some t=>
   rw[hd]at h;simp only at h;have ht:t<a.tmps.size:=by
    cases ho:ops[j]? with
    | none=>simp[ho]at hd
    | some oj=>simp[ho]at hd;have:=(qQ (hops oj (Array.mem_of_getElem? ho))).2;rw[hd]at this;simpa[ST,hn]using this
   have hy:yielded ops a.tmps j=match a.tmps.getD t undef with| .bool b=>some b|_=>none:=by
    unfold yielded;rw[hd];have e:a.tmps.getD t undef=a.tmps[t]:=by simp[Array.getD,ht]
    rw[e];simp only[Option.bind_some,Array.getElem?_eq_getElem ht];cases a.tmps[t] <;> rfl
   have hr:=hF t ht;split at h
   ·rename_i b hb;rw[hb]at hr;simp only[rep]at hr;rw[hr]at hy;refine⟨_,h,?_⟩;simp only[hy,gt];cases b <;> cases want <;> simp
   ·rename_i g b hb;rw[hb]at hr;simp only[rep]at hr;refine⟨_,h,?_⟩;cases g with
    | true=>rw[hr.1 rfl]at hy;simp only[hy,gt];cases b <;> cases want <;> simp
    | false=>rw[hr.2 rfl]at hy;simp[undef]at hy;simp[hy,gt]
   ·rename_i x hx hb;rw[hb]at hr;simp only[rep]at hr;refine⟨_,h,?_⟩;rw[hr.2 trivial]at hy;simp[undef]at hy;simp[hy,gt]
   ·exact h.elim
theorem eA{S:Sg}{w:World}{G:Option Bool}{z:AV}(h:¬gt G):rep S w (wr G z) undef:=by
 cases G with
 | none=>exact absurd trivial h
 | some b=>
  have:b=false:=by simpa[gt]using h
  subst this;simp[wr,rep]
theorem eS{S:Sg}{w:World}{G:Option Bool}{z:AV}{v:Value}(h:gt G)(hv:rep S w z v):rep S w (wr G z) v:=by
 cases G with
 | none=>exact hv
 | some b=>have:b=true:=h;subst this;simpa[wr,rep]using hv
end
section
variable[Nail]{D:DT}{P:Program}{n:Nat}{S0:Sg}{w0:World}{H0:aC}{mt:Nat→Bool}{ops:Array Oper}{K:Env→aC→Prop}{K':Act→World→Prop}{Q':Exit→Act→World→Prop}{ρ:Env}{H:aC}{a:Act}{w:World}{o:Oper}[NailD o.dst]{S:Sg}
def rV(P:Program)(ops:Array Oper)(o:Oper)(a:Act)(w:World)(K':Act→World→Prop)(Q':Exit→Act→World→Prop):Prop:=
 (Region.wanted o (yielded ops a.tmps)=true→o.wp P a w K' Q')∧(Region.wanted o (yielded ops a.tmps)=false→K' (a.put o.dst undef) w)
theorem dH{v:Value}{w':World}(h:(execOp a.eval o).run P w=.ok (.value v) w')(hk:K' (a.put o.dst v) w'):o.wp P a w K' Q':=by unfold Oper.wp;rw[h];exact hk
theorem Rel.step(hS:St S w H)(hF:FR S w ρ a)(hG:Grow S0 w0 S w)(hN:dO S0.N H0 H)(hd:DI D a)(hn:a.tmps.size=n){S':Sg}{w':World}{H':aC}{z:AV}{v:Value}{d:Option Nat}[NailD d]
  (hS':St S' w' H') (hG':Grow S w S' w') (hN':dO S.N H H') (hv:rep S' w' z v):Rel D n S0 w0 H0 (upd ρ d z) H' (a.put d v) w':=
 ⟨S',hS',FR.put (hF.keep hG'.le (hG'.kept hS)) hv,hG.trans hG',hN.trans hN' hG.le.N,hd.put,by rw[sC];exact hn⟩
theorem mU(hS:St S w H)(hF:FR S w ρ a)(hG:Grow S0 w0 S w)(hN:dO S0.N H0 H)(hd:DI D a)(hn:a.tmps.size=n)(hb:∀x∈o.op.operands,opB n x=true){G:Option Bool}
  (hgt:Region.wanted o (yielded ops a.tmps)=true↔gt G) (hK:∀ρ' H' a' w',K ρ' H'→Rel D n S0 w0 H0 ρ' H' a' w'→K' a' w') (h:fO P G ρ H o.op fun x=>K (upd ρ o.dst (wr G x)) H):
  rV P ops o a w K' Q':=by
 obtain⟨z,hz,hg⟩:=zR (hn▸hb) hF hS.rows h;refine⟨fun hw=>?_,fun hw=>?_⟩
 ·have hgG:=hgt.1 hw;obtain⟨v,hv,hr⟩:=hg hgG;exact dH (hr w (Agree.refl S H w) o rfl) (hK _ _ _ _ hz (Rel.step hS hF hG hN hd hn hS (Grow.refl S w) (dO.refl _ _) (eS hgG hv)))
 ·have hgG:¬gt G:=fun h=>by rw[hgt.2 h]at hw;simp at hw
  exact hK _ _ _ _ hz (Rel.step hS hF hG hN hd hn hS (Grow.refl S w) (dO.refl _ _) (eA hgG))
theorem kO(hS:St S w H){r:Option Row}:dO S.N H (bG H S.N r):=fun k hk h=>by rw[aK _ _ _ _ (Nat.ne_of_lt hk)];exact h
theorem QD(t:TypeId)(v:Value)(w:World):(Instr.box t v).run P w=.ok (.pointer (some ⟨w.heap.size,0,none⟩)) (w.alloc (.cells v.cells t)):=by simp[Instr.box,newVar,newRow]
theorem Mi{t:TypeId}{z:List AV}(h:eC P t=some z)(old:Value)(w:World):∃(v:Value) (i:TypeInfo),P.info? t=some i∧z=v.cells.toList.map lU∧(∀u∈v.cells.toList,u.oneCell'=true)∧v.cells.size≠0 ∧
  (Instr.alloc t true old).run P w=.ok (.pointer (some ⟨w.heap.size,0,none⟩)) (w.alloc (.cells v.cells t)):=by
 obtain⟨i,v,hi,hz,hzz,hsz,hne,h1⟩:=jZ h;refine⟨v,i,hi,hzz,h1,by rw[hsz];exact hne,?_⟩;simp[Instr.alloc,zeroValue,typeInfo,hi,hz,newVar,newRow]
theorem xX(hS:St S w H){t:TypeId}{cs:List AV}{l:List Value}(hpos:0<cs.length)(hr:aV S w cs l)(h1:∀u∈l,u.oneCell'=true):
  ∃S',St S' (w.alloc (.cells l.toArray t)) (bG H S.N (some ⟨t,cs.length,[cs]⟩))∧Grow S w S' (w.alloc (.cells l.toArray t))∧rep S' (w.alloc (.cells l.toArray t)) (.op S.N 0 0) (.pointer (some ⟨w.heap.size,0,none⟩)):=by
 have hl:=eL _ _ hr;have:=hS.newRow (e:=t) (sz:=cs.length) (cap:=1) (es:=[cs]) (xs:=l) (cur:=l.toArray) hpos (by simp) (by simpa using hr) h1 (by simp) (by simp[maxLen]) (by simp[hl]) (by simp[←hl]) (w':=w.alloc (.cells l.toArray t)) rfl rfl rfl rfl;refine⟨_,this.1,this.2,?_⟩;simp only[rep,Sg.addRow];exact⟨Nat.lt_succ_self _,w.heap.size,1,1,by simp,by simp⟩
theorem AY:∀(i n:Nat),EG i n=List.range' i n
 | _,0=>rfl
 | i,n+1=>by simp[EG,List.range'_succ,AY (i+1) n]
theorem DN{sz n:Nat}:∀(l:List (Nat×List AV)) (vs:List (Nat×Value)) (i:Nat) (A:Array Value),l.map (·.1)=EG i l.length→dF sz (l.map (·.2))→l.length=vs.length →
  (∀(j k:Nat) (c:List AV),l[j]?=some (k,c)→∃(v:Value) (l':List Value),vs[j]?=some (k,v)∧v.cells=List.toArray l'∧aV S w c l'∧∀u∈l',u.oneCell'=true)→A.size=n*sz→i+l.length=n →
  ∃xs:List Value,Instr.fill (fun i=>some (i*sz,sz)) A vs=some (A.toList.take (i*sz)++xs).toArray∧aV S w (l.map (·.2)).flatten xs∧∀u∈xs,u.oneCell'=true
 | [],vs,i,A,_,_,hl,_,hA,hi=>by
  have:vs=[]:=List.eq_nil_of_length_eq_zero (by simpa using hl.symm);subst this;refine⟨[],?_,by simp[aV],by simp⟩;simp only[Instr.fill,List.append_nil];have:i=n:=by simpa using hi
  subst this;rw[List.take_of_length_le (by simp[hA])]
 | (k,c)::rest,vs,i,A,hmap,hlen,hl,hv,hA,hi=>by
  simp only[List.map_cons,List.length_cons,EG,List.cons.injEq]at hmap;obtain⟨rfl,hmap⟩:=hmap;simp only[List.map_cons,dF]at hlen;obtain⟨v,l',e1,e2,e3,e4⟩:=hv 0 k c (by simp);cases vs with
  | nil=>simp at e1
  | cons q vs=>
   simp at e1;subst e1;have hll:l'.length=sz:=by rw[eL _ _ e3];exact hlen.1
   simp only[List.length_cons]at hi;have hm:(k+1)*sz≤n*sz:=Nat.mul_le_mul_right _ (by omega);rw[Nat.add_mul,Nat.one_mul]at hm;have hz:=yJ l' 0 A (k*sz) (by rw[hll,hA];omega);simp only[Nat.add_zero]at hz;obtain⟨xs,f1,f2,f3⟩:=DN (n:=n) rest vs (k+1) (A.toList.take (k*sz)++l'++A.toList.drop (k*sz+l'.length)).toArray hmap hlen.2 (by simpa using hl) (fun j i c hj=>by simpa using hv (j+1) i c (by simpa using hj))
    (by simp only[List.size_toArray,List.length_append,List.length_take,List.length_drop,Array.length_toList,hll,hA];omega) (by omega)
   refine⟨l'++xs,?_,?_,?_⟩
   ·simp only[Instr.fill,e2,List.size_toArray,hll];rw[if_neg (by simp[hA];omega)];have hfold:(Array.foldl (fun cs (x:Value×Nat)=>cs.setIfInBounds (k*sz+x.2) x.1) A l'.toArray.zipIdx)=(A.toList.take (k*sz)++l'++A.toList.drop (k*sz+l'.length)).toArray:=by rw[←hz,←Array.foldl_toList];simp
    rw[hfold,f1]
    congr 2
    have e5:List.take ((k+1)*sz) (A.toList.take (k*sz)++l'++A.toList.drop (k*sz+l'.length))=A.toList.take (k*sz)++l':=by rw[Nat.add_mul,Nat.one_mul,List.take_append_of_le_length (by rw[List.length_append,List.length_take,Array.length_toList,hll,hA];omega),List.take_of_length_le (by rw[List.length_append,List.length_take,Array.length_toList,hll,hA];omega)]
    rw[e5,List.append_assoc]
   ·simp only[List.map_cons,List.flatten_cons];exact dA _ _ _ _ e3 f2
   ·intro u hu;rcases List.mem_append.1 hu with hu|hu
    ·exact e4 u hu
    ·exact f3 u hu
theorem Bx{t e:TypeId}{sz bytes:Nat}(he:cM P t=some (e,sz,bytes)){l:List (Nat×List AV)}{parts:Array (Nat×Value)}{m:Nat}(hmap:l.map (·.1)=EG 0 m)(hlen:dF sz (l.map (·.2)))(hl:l.length=parts.toList.length)
  (hv:∀(j k:Nat) (c:List AV),l[j]?=some (k,c)→∃(v:Value) (l':List Value),parts.toList[j]?=some (k,v)∧v.cells=List.toArray l'∧aV S w c l'∧∀u∈l',u.oneCell'=true) (hm:m*sz≤16777216):
  ∃xs:List Value,(Instr.buildSlice t m parts).run P w=.ok (.slice (some ⟨w.heap.size,0,none⟩) m m) (w.alloc (.cells xs.toArray e))∧aV S w (l.map (·.2)).flatten xs∧(∀u∈xs,u.oneCell'=true)∧l.length=m∧xs.length=m*sz:=by
 obtain⟨inf,z,hu,hi,rfl,_,hpos,_,hz,hzs⟩:=eG he;have hlm:l.length=m:=by have:=congrArg List.length hmap;simpa[AY]using this
 have hflat:∀xs:List Value,aV S w (l.map (·.2)).flatten xs→xs.length=m*inf.size:=fun xs h=>by rw[eL _ _ h,gZ _ (fJ.1 hlen),List.length_map,hlm]
 subst hlm;obtain⟨xs,f1,f2,f3⟩:=DN (n:=l.length) l parts.toList 0 ((Array.range (l.length*inf.size)).map (z.cells[·%z.cells.size]!)) hmap hlen hl hv (by simp) (by simp);simp only[Nat.zero_mul,List.take_zero,List.nil_append]at f1;refine⟨xs,?_,f2,f3,rfl,hflat xs f2⟩;have hgt:¬l.length*inf.size>2^24:=by simpa using hm
 by_cases h0:l.length*inf.size=0
 ·have hl0 : l.length = 0 := by
   rcases Nat.mul_eq_zero.1 h0 with h|h
   ·exact h
   ·omega
  have hp0:parts.toList=[]:=List.eq_nil_of_length_eq_zero (by rw[←hl,hl0]);have hx0:xs=[]:=List.eq_nil_of_length_eq_zero (by rw[hflat xs f2,h0]);subst hx0;simp[Instr.buildSlice,run_underlying hu,sizeOf,typeInfo,hi,h0,hp0,Instr.fill,newRow,hl0];have:(Array.range 0).map (fun _=>(default:Value))=#[]:=Array.eq_empty_of_size_eq_zero (by simp);rw[this]
 ·simp[Instr.buildSlice,run_underlying hu,sizeOf,typeInfo,hi,hgt,h0,zeroValue,hz,newRow];rw[f1];simp
end
end Go.Aw
end
section
set_option linter.unusedSectionVars false
namespace Go.Aw
open Go.RowKit
section
variable[Nail]{D:DT}{P:Program}{pv:Value}{Z:aC→Prop}{n:Nat}{S0:Sg}{w0:World}{H0:aC}{mt:Nat→Bool}{ops:Array Oper}{K:Env→aC→Prop}{K':Act→World→Prop}{Q':Exit→Act→World→Prop}{ρ:Env}{H:aC}{a:Act}{w:World}{o:Oper}[NailD o.dst]{S:Sg}
theorem cX{G:Option Bool}(hgt:Region.wanted o (yielded ops a.tmps)=true↔gt G)(hG:G=none):Region.wanted o (yielded ops a.tmps)=true:=by subst hG;exact hgt.2 trivial
theorem GP{f:FuncId}(h:aF P f=true):∃fn,P.funcs[f]?=some fn∧(fn.name == "runtime.NumGoroutine")=false∧fn.body.isNone=false:=by
 unfold aF at h;split at h
 · rename_i fn hf;simp only[Bool.and_eq_true,bne_iff_ne,ne_eq]at h;refine⟨fn,hf,by simpa using h.1,?_⟩;cases hb:fn.body <;> simp_all
 · simp at h
theorem jJ{f:FuncId}(h:aF P f=true)(args:Array Value)(w:World):(callFunc f args).run P w=.ok (.enter f args) w:=by
 obtain⟨fn,h1,h2,h3⟩:=GP h;have h2':¬fn.name = "runtime.NumGoroutine" := by simpa using h2
 have h3':¬fn.body=none:=fun e=>by rw[e]at h3;simp at h3
 simp[callFunc,h1,h2',h3']
theorem eO(hw:Region.wanted o (yielded ops a.tmps)=true)(h:o.wp P a w K' Q'):rV P ops o a w K' Q':=⟨fun _=>h,fun e=>by rw[hw]at e;simp at e⟩
theorem EQ:∀(l:List Value),aV S w (l.map .v) l
 | []=>by simp[aV]
 | v::r=>by simp only[List.map_cons,aV];exact⟨v,r,rfl,gW,EQ r⟩
theorem vG{x:AV}{g:FuncId}{fst cpt:List AV}{u:Value}(h:Il x=some (g,fst,cpt))(hu:rep S w x u):
  ∃first captured:Array Value,u=.func (.func g) first captured∧aV S w fst first.toList∧aV S w cpt captured.toList:=by
 unfold Il at h;split at h
 ·rename_i f first captured
  simp only[Option.some.injEq,Prod.mk.injEq]at h;obtain⟨rfl,rfl,rfl⟩:=h;simp only[rep]at hu;exact⟨first,captured,hu,EQ _,EQ _⟩
 ·rename_i f cap;simp only[Option.some.injEq,Prod.mk.injEq]at h;obtain⟨rfl,rfl,rfl⟩:=h;simp only[rep]at hu;obtain⟨l,rfl,hl⟩:=hu;exact⟨#[],l.toArray,rfl,by simp[aV],by simpa using hl⟩
 ·simp at h
theorem kI{c:Call}{f:Operand}(hc:c.callee=.value f){g:FuncId}{first captured:Array Value}(hf:a.eval f=.func (.func g) first captured)(ty:TypeId):
  resolve a.eval c ty=pure { target:=.fn (.func g) captured,args:=first++c.args.map a.eval }:=by
 unfold resolve;simp only[hc];rw[hf];rfl
theorem Ib{nl quiet:Bool}{G:Option Bool}{c:Call}(hS:St S w H)(hF:FR S w ρ a)(hG:Grow S0 w0 S w)(hN:dO S0.N H0 H)(hd:DI D a)(hn:a.tmps.size=n)(ho:o.op=.call c)(hb:∀x∈o.op.operands,opB n x=true)
   (hgt:Region.wanted o (yielded ops a.tmps)=true↔gt G) (hK:∀ρ' H' a' w',K ρ' H'→Rel D n S0 w0 H0 ρ' H' a' w'→K' a' w') (hP:∀ch a w,DI D a→PW pv Z S0 w0 H0 ch w→Q' (.panic ch) a w) (h:wK P (cQ P pv Z) (dE P) nl quiet G o c ρ H K):rV P ops o a w K' Q':=by
 rw[ho]at hb;simp only[Op.operands,Call.operands]at hb;unfold wK at h;split at h
 · rename_i b hc;obtain⟨ys,h2,hys⟩:=kF hF c.args.toList (fun x hx=>hn▸hb x (by simp[Array.mem_toList_iff.1 hx])) h;clear h;have h:=h2;clear h2;split at h
   · rename_i x t hargs;obtain⟨z,hz,hl⟩:=BC (G:=G) (ty:=o.type) hS.rows h;refine⟨fun hw=>?_,fun hw=>?_⟩
     · have hgG:=hgt.1 hw;have hr:=hys hgG;simp only[aV]at hr;obtain⟨u,t',e1,e2,rfl⟩:=hr;obtain⟨v,hv,hrun⟩:=hl hgG u e2;have ea:c.args.map a.eval=#[u]:=by apply Array.toList_inj.1;simpa using e1
       have et:c.argTypes=#[t]:=Array.toList_inj.1 (by simpa using hargs);refine dH (v:=v) (w':=w) ?_ (hK _ _ _ _ hz (Rel.step hS hF hG hN hd hn hS (Grow.refl S w) (dO.refl _ _) (eS hgG hv)));simp[execOp,ho,resolve,hc,invoke,builtin,ea,et,hrun w (Agree.refl S H w)]
     · have hgG:¬gt G:=fun h=>by rw[hgt.2 h]at hw;simp at hw
       exact hK _ _ _ _ hz (Rel.step hS hF hG hN hd hn hS (Grow.refl S w) (dO.refl _ _) (eA hgG))
   · rename_i s x t t' hargs;split at h
     · rename_i hcond;obtain⟨htt,hGn,_⟩:=hcond;subst hGn;subst htt;have hw:=cX hgt rfl;refine eO hw ?_;have hr:=hys trivial;simp only[aV]at hr;obtain⟨us,t1,e1,e2,ux,t2,rfl,e3,rfl⟩:=hr;have ea:c.args.map a.eval=#[us,ux]:=Array.toList_inj.1 (by simpa using e1);have et:c.argTypes=#[t,t]:=Array.toList_inj.1 (by simpa using hargs);unfold qK at h;split at h
       · rename_i k e sz bytes he;split at h
         · rename_i r hk;have app : ∀ news, oC S w ux news → ((r.e = e ∧ r.sz = sz ∧ dF sz news ∧ (r.es.length + news.length) * bytes ≤ 140737488355328) ∧
               ∀k',H k'=none→K (upd ρ o.dst (.os k')) (bG (bG H k none) k' (some ⟨e,sz,r.es++news⟩)))→o.wp P a w K' Q':=by
             rintro news hsrc ⟨⟨rfl,rfl,hlen,hsize⟩,hk'⟩;simp only[rep]at e2;obtain⟨hkN,rfl,_,_,_,hloc0⟩:=e2;obtain⟨v',w',q1,q2,q3,q4⟩:=hS.append hk hloc0 (ty:=o.type) he hsrc hlen hsize;refine dH (v:=v') (w':=w') ?_ (hK _ _ _ _ (hk' S.N hS.fresh) (Rel.step hS hF hG hN hd hn q3 q4 ?_ ?_))
             · simp[execOp,ho,resolve,hc,invoke,builtin,ea,et,q1]
             · intro j hj h0;rw[aK _ _ _ _ (Nat.ne_of_lt hj)];by_cases e:j=k
               · subst e;exact aD _ _ _
               · rw[aK _ _ _ _ e];exact h0
             · simp only[rep,Sg.addRow,if_true];exact⟨Nat.lt_succ_self _,trivial,q2⟩
           unfold qJ at h;split at h
           · exact app _ (yP e3) h
           · rename_i k2;split at h
             · rename_i r2 hk2;simp only[rep]at e3;obtain⟨_,rfl,_,_,_,hloc2⟩:=e3;exact app _ (yV (hS.rows k2 r2 hk2) hloc2) h
             · exact h.elim
           · rename_i k2 a2 b2;split at h
             · rename_i r2 hk2;exact app _ (sD (hS.rows k2 r2 hk2) e3).1 h
             · exact h.elim
           · exact h.elim
         · exact h.elim
       · rename_i es e sz bytes he;have app : ∀ news, oC S w ux news → ((news ≠ [] ∧ dF sz es ∧ dF sz news ∧ (es.length + news.length) * bytes ≤ 140737488355328) ∧
             ∀k',H k'=none→K (upd ρ o.dst (.os k')) (bG H k' (some ⟨e,sz,es++news⟩)))→o.wp P a w K' Q':=by
           rintro news hsrc ⟨⟨hne,hes,hlen,hsize⟩,hk'⟩;obtain⟨v',w',q1,q2,q3,q4⟩:=hS.appendNew e2 (ty:=o.type) he hsrc hne hes hlen hsize;refine dH (v:=v') (w':=w') ?_ (hK _ _ _ _ (hk' S.N hS.fresh) (Rel.step hS hF hG hN hd hn q3 q4 ?_ ?_))
           · simp[execOp,ho,resolve,hc,invoke,builtin,ea,et,q1]
           · intro j hj h0;rw[aK _ _ _ _ (Nat.ne_of_lt hj)];exact h0
           · simp only[rep,Sg.addRow,if_true];exact⟨Nat.lt_succ_self _,trivial,q2⟩
         unfold qJ at h;split at h
         · exact app _ (yP e3) h
         · rename_i k2;split at h
           · rename_i r2 hk2;simp only[rep]at e3;obtain⟨_,rfl,_,_,_,hloc2⟩:=e3;exact app _ (yV (hS.rows k2 r2 hk2) hloc2) h
           · exact h.elim
         · rename_i k2 a2 b2;split at h
           · rename_i r2 hk2;exact app _ (sD (hS.rows k2 r2 hk2) e3).1 h
           · exact h.elim
         · exact h.elim
       · rename_i k a0 b0 e sz bytes he;split at h
         · rename_i r hk;have app : ∀ news, oC S w ux news → ((r.e = e ∧ r.sz = sz ∧ news ≠ [] ∧ dF sz news ∧ b0 = r.es.length ∧ (r.es.length + news.length) * bytes ≤ 140737488355328) ∧
               ∀(k':Nat) (pre:List (List AV)),pre.length≤a0→H k'=none→K (upd ρ o.dst (.oz k' pre.length (pre.length+(b0-a0)+news.length))) (bG (bG H k none) k' (some ⟨e,sz,pre++(r.es.drop a0++news)⟩)))→o.wp P a w K' Q':=by
             rintro news hsrc ⟨⟨rfl,rfl,hne,hlen,hb,hsize⟩,hk'⟩;obtain⟨v',w',vl,pre,q1,q3,q4,q5,q6⟩:=hS.appendOz hk e2 (ty:=o.type) he hsrc hne hb hlen hsize;refine dH (v:=v') (w':=w') ?_ (hK _ _ _ _ (hk' S.N pre q6 hS.fresh) (Rel.step hS hF hG hN hd hn q3 q4 ?_ q5))
             · simp[execOp,ho,resolve,hc,invoke,builtin,ea,et,q1]
             · intro j hj h0;rw[aK _ _ _ _ (Nat.ne_of_lt hj)];by_cases e:j=k
               · subst e;exact aD _ _ _
               · rw[aK _ _ _ _ e];exact h0
           unfold qJ at h;split at h
           · exact app _ (yP e3) h
           · rename_i k2;split at h
             · rename_i r2 hk2;simp only[rep]at e3;obtain⟨_,rfl,_,_,_,hloc2⟩:=e3;exact app _ (yV (hS.rows k2 r2 hk2) hloc2) h
             · exact h.elim
           · rename_i k2 a2 b2;split at h
             · rename_i r2 hk2;exact app _ (sD (hS.rows k2 r2 hk2) e3).1 h
             · exact h.elim
           · exact h.elim
         · exact h.elim
       · rename_i e sz bytes he;have e2':rep S w (.cl []) us:=by
           have hu:us=.slice none 0 0:=by simp only[rep]at e2;exact e2
           subst hu;simp only[rep];exact⟨none,0,rfl,rfl,Nat.zero_le _,.inl trivial⟩
         have app : ∀ news, oC S w ux news → ((news = [] ∧ K (upd ρ o.dst (.v (.slice none 0 0))) H) ∨ (news ≠ [] ∧ dF sz ([] : List (List AV)) ∧ dF sz news ∧ (([] : List (List AV)).length + news.length) * bytes ≤ 140737488355328) ∧
             ∀k',H k'=none→K (upd ρ o.dst (.os k')) (bG H k' (some ⟨e,sz,[]++news⟩)))→o.wp P a w K' Q':=by
           rintro news hsrc (⟨rfl,h0⟩|⟨⟨hne,hes,hlen,hsize⟩,hk'⟩)
           · obtain⟨inf,z,hut,hi,_⟩:=eG he;obtain⟨ad,c,l,rfl,_⟩:=hsrc;have hu:us=.slice none 0 0:=by simp only[rep]at e2;exact e2
             subst hu;refine dH (v:=.slice none 0 0) (w':=w) ?_ (hK _ _ _ _ h0 (Rel.step hS hF hG hN hd hn hS (Grow.refl S w) (dO.refl _ _) e2));simp[execOp,ho,resolve,hc,invoke,builtin,ea,et,nU (b:=none) (ad:=ad) (c2:=c) (ty:=o.type) hut hi (Nat.le_refl 0)]
           obtain⟨v',w',q1,q2,q3,q4⟩:=hS.appendNew e2' (ty:=o.type) he hsrc hne hes hlen hsize;refine dH (v:=v') (w':=w') ?_ (hK _ _ _ _ (hk' S.N hS.fresh) (Rel.step hS hF hG hN hd hn q3 q4 ?_ ?_))
           · simp[execOp,ho,resolve,hc,invoke,builtin,ea,et,q1]
           · intro j hj h0;rw[aK _ _ _ _ (Nat.ne_of_lt hj)];exact h0
           · simp only[rep,Sg.addRow,if_true];exact⟨Nat.lt_succ_self _,trivial,q2⟩
         unfold qJ at h;split at h
         · exact app _ (yP e3) h
         · rename_i k2;split at h
           · rename_i r2 hk2;simp only[rep]at e3;obtain⟨_,rfl,_,_,_,hloc2⟩:=e3;exact app _ (yV (hS.rows k2 r2 hk2) hloc2) h
           · exact h.elim
         · rename_i k2 a2 b2;split at h
           · rename_i r2 hk2;exact app _ (sD (hS.rows k2 r2 hk2) e3).1 h
           · exact h.elim
         · exact h.elim
       · rename_i es e' he;have app:∀news,oC S w ux news→(news=[]∧K (upd ρ o.dst (.sl es)) H)→o.wp P a w K' Q':=by rintro news hsrc ⟨rfl,h0⟩;obtain⟨e,sz,bytes⟩:=e';obtain⟨inf,z,hut,hi,_⟩:=eG he;obtain⟨ad,c,l,rfl,_⟩:=hsrc;have e4:=e2;simp only[rep]at e2;obtain⟨ad2,n2,c2,rfl,hl2,hnc,_⟩:=e2;refine dH (v:=.slice ad2 n2 c2) (w':=w) ?_ (hK _ _ _ _ h0 (Rel.step hS hF hG hN hd hn hS (Grow.refl S w) (dO.refl _ _) e4));simp[execOp,ho,resolve,hc,invoke,builtin,ea,et,nU (b:=ad2) (ad:=ad) (c2:=c) (ty:=o.type) hut hi hnc]
         unfold qJ at h;split at h
         · exact app _ (yP e3) h
         · rename_i k2;split at h
           · rename_i r2 hk2;simp only[rep]at e3;obtain⟨_,rfl,_,_,_,hloc2⟩:=e3;exact app _ (yV (hS.rows k2 r2 hk2) hloc2) h
           · exact h.elim
         · rename_i k2 a2 b2;split at h
           · rename_i r2 hk2;exact app _ (sD (hS.rows k2 r2 hk2) e3).1 h
           · exact h.elim
         · exact h.elim
       · exact h.elim
     · split at h
       · rename_i hcond;obtain⟨hGn,_⟩:=hcond;subst hGn;have hw:=cX hgt rfl;refine eO hw ?_;have hr:=hys trivial;simp only[aV]at hr;obtain⟨us,t1,e1,e2,ux,t2,rfl,e3,rfl⟩:=hr;have ea:c.args.map a.eval=#[us,ux]:=Array.toList_inj.1 (by simpa using e1);have et:c.argTypes=#[t,t']:=Array.toList_inj.1 (by simpa using hargs);unfold tD at h;split at h
         · rename_i k b e y he;split at h
           · rename_i r hk;obtain⟨⟨rfl,hsz,hby,hsize⟩,hk'⟩:=h;simp only[rep]at e2 e3;subst e3;rw[Bool.and_eq_true]at hby;obtain⟨hkN,rfl,_,_,_,hloc0⟩:=e2;obtain⟨v',w',q1,q2,q3,q4⟩:=hS.appendStr hk hloc0 (ty:=o.type) he hsz (dZ hby.2) hby.1 b hsize;rw[hsz]at q3 q4;refine dH (v:=v') (w':=w') ?_ (hK _ _ _ _ (hk' S.N hS.fresh) (Rel.step hS hF hG hN hd hn q3 q4 ?_ ?_))
             · simp[execOp,ho,resolve,hc,invoke,builtin,ea,et,q1]
             · intro j hj h0;rw[aK _ _ _ _ (Nat.ne_of_lt hj)];by_cases e:j=k
               · subst e;exact aD _ _ _
               · rw[aK _ _ _ _ e];exact h0
             · simp only[rep,Sg.addRow,if_true];exact⟨Nat.lt_succ_self _,trivial,q2⟩
           · exact h.elim
         · exact h.elim
       · exact h.elim
   · rename_i x y t t' hargs;split at h
     · rename_i hcond;obtain⟨hGn,_⟩:=hcond;subst hGn;have hw:=cX hgt rfl;refine eO hw ?_;have hr:=hys trivial;simp only[aV]at hr;obtain⟨us,t1,e1,e2,ux,t2,rfl,e3,rfl⟩:=hr;have ea:c.args.map a.eval=#[us,ux]:=Array.toList_inj.1 (by simpa using e1);have et:c.argTypes=#[t,t']:=Array.toList_inj.1 (by simpa using hargs);have go : ∀ k a0 n0 r, H k = some r → a0 + n0 ≤ r.es.length → (∃ ad cc, us = .slice ad n0 cc ∧ (0 < n0 → ∃ g n' c', S.loc k = .slice (some ⟨g, 0, none⟩) n' c' ∧ ad = some ⟨g, a0 * r.sz, none⟩)) → ∀ news, oC S w ux news →
           (match cM P t with
             | some (_,sz,_)=>(r.sz=sz∧dF sz news)∧K (upd ρ o.dst (.v (.int .i64 (min news.length n0:Nat)))) (bG H k (some { r with es:=r.es.take a0++news.take (min news.length n0)++r.es.drop (a0+min news.length n0) }))
             | none=>False)→o.wp P a w K' Q':=by
         intro k a0 n0 r hk han hx news hsrc hc2;split at hc2
         · rename_i e sz bytes he;obtain⟨⟨h1,h2⟩,h3⟩:=hc2;obtain⟨w',q1,q2,q3⟩:=hS.copy hk (t':=t') (ty:=o.type) he h1 han hsrc h2 hx;refine dH (v:=goInt (min news.length n0:Nat)) (w':=w') ?_ (hK _ _ _ _ h3 (Rel.step hS hF hG hN hd hn q2 q3 ?_ (by simp only[rep];rfl)))
           · simp[execOp,ho,resolve,hc,invoke,builtin,ea,et,q1]
           · intro j hj h0;by_cases e:j=k
             · subst e;rw[hk]at h0;simp at h0
             · rw[aK _ _ _ _ e];exact h0
         · exact hc2.elim
       have src:∀F:List (List AV)→Prop,qJ H y F→∃news,oC S w ux news∧F news:=by
         intro F hF;unfold qJ at hF;split at hF
         · exact⟨_,yP e3,hF⟩
         · rename_i k2;split at hF
           · rename_i r2 hk2;simp only[rep]at e3;obtain⟨_,rfl,_,_,_,hloc2⟩:=e3;exact⟨_,yV (hS.rows k2 r2 hk2) hloc2,hF⟩
           · exact hF.elim
         · rename_i k2 a2 b2;split at hF
           · rename_i r2 hk2;exact⟨_,(sD (hS.rows k2 r2 hk2) e3).1,hF⟩
           · exact hF.elim
         · exact hF.elim
       unfold Oe QB at h;split at h
       · rename_i k;split at h
         · rename_i r hk;obtain⟨news,hs,hc2⟩:=src _ h;have hR:=hS.rows k r hk;simp only[rep]at e2;obtain⟨_,rfl,ad,n,cc,hloc⟩:=e2;obtain⟨xs,hown,_,_⟩:=hR.sl hloc;have hn:n=r.es.length∧(0<r.es.length→∃g,ad=some ⟨g,0,none⟩):=by
             rcases hown.2 with⟨hv,h0⟩|⟨g,cap,cur,hv,_⟩
             · rw[hloc]at hv;injection hv with _ h2 _;exact⟨by omega,fun h=>by omega⟩
             · rw[hloc]at hv;injection hv with h1 h2 _;exact⟨h2,fun _=>⟨g,h1⟩⟩
           refine go k 0 r.es.length r hk (by omega) ⟨ad,cc,by rw[hloc,hn.1],fun hp=>?_⟩ news hs hc2;obtain⟨g,rfl⟩:=hn.2 hp;exact⟨g,n,cc,hloc,by simp⟩
         · exact h.elim
       · rename_i k a0 b0;split at h
         · rename_i r hk;obtain⟨news,hs,hc2⟩:=src _ h;have hR:=hS.rows k r hk;obtain⟨_,hb,hab⟩:=sD hR e2;simp only[rep]at e2;obtain⟨_,ad,n,c0,ad',cc,hloc,rfl,hab0,hbn0,hpos,_,hnc0,_⟩:=e2;refine go k a0 (b0-a0) r hk (by omega) ⟨ad',cc,rfl,fun hp=>?_⟩ news hs hc2;obtain⟨g,rfl,rfl⟩:=hpos (by omega);exact⟨g,n,c0,hloc,by rw[hR.sz]⟩
         · exact h.elim
       · exact h.elim
     · exact h.elim
   · rename_i x t hargs;split at h
     · rename_i hcond;obtain⟨hGn,_⟩:=hcond;subst hGn;have hw:=cX hgt rfl;refine eO hw ?_;have hr:=hys trivial;simp only[aV]at hr;obtain⟨us,t1,e1,e2,rfl⟩:=hr;have ea:c.args.map a.eval=#[us]:=Array.toList_inj.1 (by simpa using e1);have et:c.argTypes=#[t]:=Array.toList_inj.1 (by simpa using hargs);have go : ∀ k a0 n0 r, H k = some r → a0 + n0 ≤ r.es.length → (∃ ad cc, us = .slice ad n0 cc ∧ (0 < n0 → ∃ g n' c', S.loc k = .slice (some ⟨g, 0, none⟩) n' c' ∧ ad = some ⟨g, a0 * r.sz, none⟩)) →
           (match cM P t with
             | some (e,sz,_)=>match eC P e with
               | some zs=>r.sz=sz∧K (upd ρ o.dst .any) (bG H k (some { r with es:=r.es.take a0++List.replicate n0 zs++r.es.drop (a0+n0) }))
               | none=>False
             | none=>False)→o.wp P a w K' Q':=by
         intro k a0 n0 r hk han hx hc2;split at hc2
         · rename_i e sz bytes he;split at hc2
           · rename_i zs hzs;obtain⟨h1,h3⟩:=hc2;obtain⟨w',q1,q2,q3⟩:=hS.clear hk (ty:=o.type) he hzs h1 han hx;refine dH (v:=.tuple #[]) (w':=w') ?_ (hK _ _ _ _ h3 (Rel.step hS hF hG hN hd hn q2 q3 ?_ (by simp only[rep])))
             · simp[execOp,ho,resolve,hc,invoke,builtin,ea,et,q1]
             · intro j hj h0;by_cases e:j=k
               · subst e;rw[hk]at h0;simp at h0
               · rw[aK _ _ _ _ e];exact h0
           · exact hc2.elim
         · exact hc2.elim
       unfold Kl QB at h;split at h
       · rename_i k;split at h
         · rename_i r hk;have hR:=hS.rows k r hk;simp only[rep]at e2;obtain⟨_,rfl,ad,n,cc,hloc⟩:=e2;obtain⟨xs,hown,_,_⟩:=hR.sl hloc;have hn:n=r.es.length∧(0<r.es.length→∃g,ad=some ⟨g,0,none⟩):=by
             rcases hown.2 with⟨hv,h0⟩|⟨g,cap,cur,hv,_⟩
             · rw[hloc]at hv;injection hv with _ h2 _;exact⟨by omega,fun h=>by omega⟩
             · rw[hloc]at hv;injection hv with h1 h2 _;exact⟨h2,fun _=>⟨g,h1⟩⟩
           refine go k 0 r.es.length r hk (by omega) ⟨ad,cc,by rw[hloc,hn.1],fun hp=>?_⟩ h;obtain⟨g,rfl⟩:=hn.2 hp;exact⟨g,n,cc,hloc,by simp⟩
         · exact h.elim
       · rename_i k a0 b0;split at h
         · rename_i r hk;have hR:=hS.rows k r hk;obtain⟨_,hb,hab⟩:=sD hR e2;simp only[rep]at e2;obtain⟨_,ad,n,c0,ad',cc,hloc,rfl,hab0,hbn0,hpos,_,hnc0,_⟩:=e2;refine go k a0 (b0-a0) r hk (by omega) ⟨ad',cc,rfl,fun hp=>?_⟩ h;obtain⟨g,rfl,rfl⟩:=hpos (by omega);exact⟨g,n,c0,hloc,by rw[hR.sz]⟩
         · exact h.elim
       · exact h.elim
     · exact h.elim
   · rename_i x y t t' hargs;obtain⟨z,hz,hl⟩:=AM (P:=P) (S:=S) (w:=w) (H:=H) (G:=G) (tys:=c.argTypes) (ty:=o.type) h;refine⟨fun hw=>?_,fun hw=>?_⟩
     · have hgG:=hgt.1 hw;have hr:=hys hgG;simp only[aV]at hr;obtain⟨us,t1,e1,e2,ux,t2,rfl,e3,rfl⟩:=hr;obtain⟨v,hv,hrun⟩:=hl hgG us ux e2 e3;have ea:c.args.map a.eval=#[us,ux]:=Array.toList_inj.1 (by simpa using e1);refine dH (v:=v) (w':=w) ?_ (hK _ _ _ _ hz (Rel.step hS hF hG hN hd hn hS (Grow.refl S w) (dO.refl _ _) (eS hgG hv)));simp[execOp,ho,resolve,hc,invoke,builtin,ea,hrun w (Agree.refl S H w)]
     · have hgG:¬gt G:=fun h=>by rw[hgt.2 h]at hw;simp at hw
       exact hK _ _ _ _ hz (Rel.step hS hF hG hN hd hn hS (Grow.refl S w) (dO.refl _ _) (eA hgG))
   · rename_i x y t t' hargs;obtain⟨z,hz,hl⟩:=BT (P:=P) (S:=S) (w:=w) (H:=H) (G:=G) (tys:=c.argTypes) (ty:=o.type) h;refine⟨fun hw=>?_,fun hw=>?_⟩
     · have hgG:=hgt.1 hw;have hr:=hys hgG;simp only[aV]at hr;obtain⟨us,t1,e1,e2,ux,t2,rfl,e3,rfl⟩:=hr;obtain⟨v,hv,hrun⟩:=hl hgG us ux e2 e3;have ea:c.args.map a.eval=#[us,ux]:=Array.toList_inj.1 (by simpa using e1);refine dH (v:=v) (w':=w) ?_ (hK _ _ _ _ hz (Rel.step hS hF hG hN hd hn hS (Grow.refl S w) (dO.refl _ _) (eS hgG hv)));simp[execOp,ho,resolve,hc,invoke,builtin,ea,hrun w (Agree.refl S H w)]
     · have hgG:¬gt G:=fun h=>by rw[hgt.2 h]at hw;simp at hw
       exact hK _ _ _ _ hz (Rel.step hS hF hG hN hd hn hS (Grow.refl S w) (dO.refl _ _) (eA hgG))
   · exact h.elim
 · rename_i f hc;obtain⟨yf,h2,hf⟩:=aI (S:=S) (w:=w) h;clear h;have h:=h2;clear h2;split at h
   · rename_i g fst cpt hfn;by_cases hnl:nl=true
     · rw[if_pos hnl]at h;obtain⟨hGn,hq0,hok,h⟩:=h;have hw:=hgt.2 hGn;obtain⟨first,captured,hfe,h2,h3⟩:=vG hfn (hf hGn _ (cL hF (hn▸hb f (by simp[hc]))));have hra:aV S w (fst++c.args.toList.map (Fg ρ)++cpt) (first++c.args.map a.eval++captured).toList:=by simp only[Array.toList_append];refine dA _ _ _ _ (dA _ _ _ _ h2 ?_) h3;have:=zG hF c.args.toList (fun x hx=>hn▸hb x (by simp[hc,Array.mem_toList_iff.1 hx]));simpa using this
       have hexec:(execOp a.eval o).run P w=.ok (.enter g (first++c.args.map a.eval++captured)) w:=by simp only[execOp,ho];rw[kI hc hfe];simp[invoke,jJ hok]
       refine eO hw ?_;have hcalls:=h S w _ hS hra;unfold Oper.wp;rw[hexec];simp only[Oper.upon,Array.toArray_toList]at hcalls ⊢;refine hcalls.mono fun e w' hh=>?_
       rcases hh with⟨v,r,H',S',he,hr,hS',hv,hg',hn'⟩|⟨H',S',he,hz,hS',hg',hn'⟩
       · subst he;exact hK _ _ _ _ hr (Rel.step hS hF hG hN hd hn hS' hg' hn' hv)
       · subst he;exact hP _ _ _ hd ⟨rfl,S',H',hz,hS',hG.trans hg',hN.trans hn' hG.le.N⟩
     rw[if_neg hnl]at h;obtain⟨ys,h2,hys⟩:=kF hF c.args.toList (fun x hx=>hn▸hb x (by simp[hc,Array.mem_toList_iff.1 hx])) h;clear h;obtain⟨hok,h⟩:=h2;have hfv:=fun hg=>vG hfn (hf hg _ (cL hF (hn▸hb f (by simp[hc]))))
     have hargs:gt G→∃first captured:Array Value,a.eval f=.func (.func g) first captured∧aV S w (fst++ys++cpt) (first++c.args.map a.eval++captured).toList:=fun hg=>by obtain⟨first,captured,h1,h2,h3⟩:=hfv hg;refine⟨first,captured,h1,?_⟩;simp only[Array.toList_append];refine dA _ _ _ _ (dA _ _ _ _ h2 ?_) h3;simpa using hys hg
     split at h
     · rename_i hcond;obtain⟨hGn,_⟩:=hcond;subst hGn;have hw:=cX hgt rfl;obtain⟨first,captured,hfe,hra⟩:=hargs trivial;have hexec:(execOp a.eval o).run P w=.ok (.enter g (first++c.args.map a.eval++captured)) w:=by simp only[execOp,ho];rw[kI hc hfe];simp[invoke,jJ hok]
       refine eO hw ?_;have hcalls:=h S w _ hS hra;unfold Oper.wp;rw[hexec];simp only[Oper.upon,Array.toArray_toList]at hcalls ⊢;refine hcalls.mono fun e w' hh=>?_
       rcases hh with⟨v,r,H',S',he,hr,hS',hv,hg',hn'⟩|⟨H',S',he,hz,hS',hg',hn'⟩
       · subst he;exact hK _ _ _ _ hr (Rel.step hS hF hG hN hd hn hS' hg' hn' hv)
       · subst he;exact hP _ _ _ hd ⟨rfl,S',H',hz,hS',hG.trans hg',hN.trans hn' hG.le.N⟩
     · obtain⟨r,hq,hk⟩:=h;refine⟨fun hw=>?_,fun hw=>?_⟩
       · have hgG:=hgt.1 hw;obtain⟨first,captured,hfe,hra⟩:=hargs hgG;have hexec:(execOp a.eval o).run P w=.ok (.enter g (first++c.args.map a.eval++captured)) w:=by simp only[execOp,ho];rw[kI hc hfe];simp[invoke,jJ hok]
         rcases hq hgG with hq|⟨x,rfl,hpc⟩
         · obtain⟨v,hv'⟩:=hq.val;obtain⟨hv,hcalls⟩:=hq.calls hv' hS hra;rw[Ir (by rw[hv'];rfl)]at hk;unfold Oper.wp;rw[hexec];simp only[Oper.upon,Array.toArray_toList]at hcalls ⊢;refine hcalls.mono fun e w' ⟨he,p1,p2,p3,p4,p5⟩=>?_
           subst he;exact hK _ _ _ _ hk (Rel.step hS hF hG hN hd hn (hS.after p4 p5) (hS.grow p1 p2 p3 p4 p5) (dO.refl _ _) (eS hgG (hv S w')))
         · cases quiet with
           | true=>exact hk.elim
           | false=>
             have hcalls:=(PC.use (H:=H) hpc (K:=fun y H'=>y=x∧H'=H) ⟨rfl,rfl⟩) S w _ hS hra;unfold Oper.wp;rw[hexec];simp only[Oper.upon,Array.toArray_toList]at hcalls ⊢;refine hcalls.mono fun e w' ⟨v,r,H',S',he,⟨hr,hH⟩,hS',hv,hg',hn'⟩=>?_
             subst he hr hH;exact hK _ _ _ _ hk (Rel.step hS hF hG hN hd hn hS' hg' hn' (eS hgG hv))
       · have hgG:¬gt G:=fun h=>by rw[hgt.2 h]at hw;simp at hw
         obtain⟨z,hk⟩:=GY hk;exact hK _ _ _ _ hk (Rel.step hS hF hG hN hd hn hS (Grow.refl S w) (dO.refl _ _) (eA hgG))
   · exact h.elim
 · exact h.elim
end
end Go.Aw
end
section
set_option linter.unusedSectionVars false
namespace Go.Aw
open Go.RowKit
section
variable[Nail]{D:DT}{P:Program}{pv:Value}{Z:aC→Prop}{n:Nat}{S0:Sg}{w0:World}{H0:aC}{mt:Nat→Bool}{ops:Array Oper}{K:Env→aC→Prop}{K':Act→World→Prop}{Q':Exit→Act→World→Prop}{ρ:Env}{H:aC}{a:Act}{w:World}{o:Oper}[NailD o.dst]{S:Sg}
theorem pG{w':World}(h:(execOp a.eval o).run P w=.ok .skip w')(hk:K' (a.put o.dst undef) w'):o.wp P a w K' Q':=by unfold Oper.wp;rw[h];exact hk
theorem Ho{s:Sem Value}{v:Value}{w w':World}(h:s.run P w=.ok v w'):(do pure (Next.value (←s)):Sem Next).run P w=.ok (.value v) w':=by simp[h]
theorem EK{t:TypeId}{l:Option Nat}(hl:ldT P t=some l){v:Value}{vs:List Value}(hv:v.cells=List.toArray vs)(hsz:vs.length=l.getD 1){g p:Nat}{w w':World}(hone:l=none→∃i,P.info? t=some i∧i.size=1)
  (hr:(storeCells ⟨g,p,none⟩ vs).run P w=.ok () w'):(Instr.storeAt t (.pointer (some ⟨g,p,none⟩)) v).run P w=.ok () w':=by
 have hs:(sizeOf t).run P w=.ok vs.length w:=by
  cases l with
  | none=>obtain⟨i,hi,h1⟩:=hone rfl;simp[sizeOf,typeInfo,hi,h1,hsz]
  | some m=>rw[oP hl,hsz];rfl
 simp[Instr.storeAt,Instr.sureAddr,storeVar,hs,hv,hr]
theorem sH(z:Array Value)(hz:0<z.size):∀m,(madeCells z (m*z.size)).toList=(List.replicate m z.toList).flatten
 | 0=>by simp[madeCells]
 | m+1=>by
  have ih:=sH z hz m;rw[show List.replicate (m+1) z.toList=List.replicate m z.toList++[z.toList]from List.replicate_succ',List.flatten_append,←ih];simp only[madeCells,Array.toList_map,Array.toList_range,Nat.add_mul,Nat.one_mul,List.flatten_cons,List.flatten_nil,List.append_nil];rw[List.range_add,List.map_append]
  congr 1
  apply List.ext_getElem
  ·simp
  ·intro i h1 h2;have hi:i<z.size:=by simpa using h2
   simp[Nat.add_mod,Nat.mod_eq_of_lt hi,hi]
theorem BP:∀(cs:List AV) (l:List Value) (j:Nat) {x:AV},aV S w cs l→(∀u,l[j]?=some u→rep S w x u)→aV S w (cs.set j x) l
 | [],_,_,_,h,_=>h
 | y::r,l,0,x,h,hx=>by simp only[aV,List.set_cons_zero]at h ⊢;obtain⟨u,t,rfl,h1,h2⟩:=h;exact⟨u,t,rfl,hx u (by simp),h2⟩
 | y::r,l,j+1,x,h,hx=>by simp only[aV,List.set_cons_succ]at h ⊢;obtain⟨u,t,rfl,h1,h2⟩:=h;exact⟨u,t,rfl,h1,BP r t j h2 fun u hu=>hx u (by simpa using hu)⟩
theorem lM:∀(nl:List (Nat×TypeId×Nat)) (z:List AV) (S:Sg) (H:aC) (vs:List Value) {K:List AV→aC→Prop},(∀x∈nl,vs[x.1]?=some (.slice none 0 0)∧0<x.2.2)→St S w H→aV S w z vs→iF nl z H K →
  ∃z' S' H',K z' H'∧St S' w H'∧Grow S w S' w∧dO S.N H H'∧aV S' w z' vs∧z'.length=z.length
 | [],z,S,H,vs,K,_,hS,hr,h=>⟨z,S,H,h,hS,Grow.refl S w,dO.refl _ _,hr,rfl⟩
 | x::r,z,S,H,vs,K,hn,hS,hr,h=>by obtain⟨h0,hpos⟩:=hn x (by simp);have q:=hS.nilRow x.2.1 hpos;have hr':=BP z vs x.1 (x:=.os S.N) (dN q.2.le (q.2.kept hS) _ _ hr) (fun u hu=>by rw[h0]at hu;injection hu with hu;subst hu;simp only[rep,Sg.addRow,if_true];exact⟨Nat.lt_succ_self _,trivial,_,_,_,rfl⟩);obtain⟨z',S',H',h1,h2,h3,h4,h5,h6⟩:=lM r _ _ _ vs (fun y hy=>hn y (by simp[hy])) q.1 hr' (h S.N hS.fresh);exact⟨z',S',H',h1,h2,q.2.trans h3,(kO hS).trans h4 q.2.le.N,h5,by simpa using h6⟩
theorem uS{P:Program}{t:TypeId}{nl:List (Nat×TypeId×Nat)}(h:kT P t=some nl){i:TypeInfo}{v:Value}(hi:P.info? t=some i)(hz:i.zero=some v):∀x∈nl,v.cells.toList[x.1]?=some (.slice none 0 0)∧0<x.2.2:=by
 unfold kT at h;rw[hi]at h;simp only[hz]at h;split at h
 ·rename_i hall;injection h with h;subst h;intro x hx;have:=List.all_eq_true.1 hall x hx;simp only[Bool.and_eq_true,decide_eq_true_eq]at this;refine⟨?_,this.2⟩;have h1:=this.1;unfold OI at h1;split at h1
  ·rename_i e;exact e
  ·simp at h1
 ·simp at h
theorem IA{t:TypeId}{z:List AV}(hS:St S w H)(hF:FR S w ρ a)(hG:Grow S0 w0 S w)(hN:dO S0.N H0 H)(hd:DI D a)(hn:a.tmps.size=n)(ho:o.op=.alloc t)(hz:eC P t=some z)
  (hw:Region.wanted o (yielded ops a.tmps)=true) (hK:∀ρ' H' a' w',K ρ' H'→Rel D n S0 w0 H0 ρ' H' a' w'→K' a' w') {nl:List (Nat×TypeId×Nat)} (hnl:kT P t=some nl)
  (h:iF nl z H fun z H=>kQ H ⟨t,z.length,[z]⟩ fun k H'=>K (upd ρ o.dst (.op k 0 0)) H'):rV P ops o a w K' Q':=by
 obtain⟨i,v,hi,hiz,rfl,hsz,hne,h1⟩:=jZ hz;have hrun:(Instr.alloc t true (.tuple #[])).run P w=.ok (.pointer (some ⟨w.heap.size,0,none⟩)) (w.alloc (.cells v.cells t)):=by simp[Instr.alloc,zeroValue,typeInfo,hi,hiz,newVar,newRow]
 have hvv:∀x∈nl,v.cells.toList[x.1]?=some (.slice none 0 0)∧0<x.2.2:=uS hnl hi hiz;obtain⟨z',S',H',q0,hS',hG',hN',hr',hl'⟩:=lM nl _ S H v.cells.toList hvv hS (jD _) h;obtain⟨S2,q1,q2,q3⟩:=xX (t:=t) (cs:=z') (l:=v.cells.toList) hS' (by rw[hl'];simp;omega) hr' h1;refine eO hw (dH (v:=.pointer (some ⟨w.heap.size,0,none⟩)) (w':=w.alloc (.cells v.cells t)) (by simp[execOp,ho,hrun]) (hK _ _ _ _ (q0 S'.N hS'.fresh) (Rel.step hS' (hF.keep hG'.le (hG'.kept hS)) (hG.trans hG') (hN.trans hN' hG.le.N) hd hn (by simpa using q1) (by simpa using q2) (kO hS') (by simpa using q3))))
theorem zA{t:TypeId}{x y:Operand}{x':AV}{cs:List AV}{l:List Value}(hS:St S w H)(hF:FR S w ρ a)(hG:Grow S0 w0 S w)(hN:dO S0.N H0 H)(hd:DI D a)(hn:a.tmps.size=n)(ho:o.op=.store t x y)
  (hw:Region.wanted o (yielded ops a.tmps)=true) (hK:∀ρ' H' a' w',K ρ' H'→Rel D n S0 w0 H0 ρ' H' a' w'→K' a' w') (ex:rep S w x' (a.eval x)) (e1:(a.eval y).cells=l.toArray) (e2:aV S w cs l) (e3:∀u∈l,u.oneCell'=true)
  (h4:tA P o t x' cs ρ H K):rV P ops o a w K' Q':=by
 unfold tA at h4;split at h4
 ·rename_i k i f;split at h4
  ·rename_i r ld hk hld;obtain⟨⟨c1,c2,c3,c4⟩,h5⟩:=h4;simp only[rep]at ex;obtain⟨_,g,m,c,hloc,ep⟩:=ex;obtain⟨g',n',c',w',hloc',hrun,q1,q2⟩:=hS.store hk c1 c3 hloc e2 e3;rw[hloc]at hloc';injection hloc' with i1 i2 i3;injection i1 with i1;injection i1 with i1;subst i1;rw[←(hS.rows k r hk).sz]at ep;have hst:=EK (P:=P) hld e1 (by rw[eL _ _ e2,c2]) (by intro hn';subst hn';exact c4 rfl) (hrun P);refine eO hw (pG (w':=w') ?_ (hK _ _ _ _ h5 (Rel.step hS hF hG hN hd hn q1 q2 ?_ (by simp only[rep]))))
   ·simp[execOp,ho,ep,hst]
   ·intro j _ h0;rw[aK _ _ _ _ (fun e=>by subst e;rw[hk]at h0;simp at h0)];exact h0
  ·exact h4.elim
 ·exact h4.elim
theorem Lt:∀(x:List AV) (l:List Value) (j:Nat) (v:Value),aV S w x l→x[j]?=some (.v v)→l[j]?=some v
 | [],_,_,_,_,h=>by simp at h
 | a::r,l,0,v,h,hx=>by
  simp only[aV]at h;obtain⟨u,t,rfl,h1,h2⟩:=h;have e:a=.v v:=by simpa using hx
  subst e;simp only[rep]at h1;simp[h1]
 | a::r,l,j+1,v,h,hx=>by simp only[aV]at h;obtain⟨u,t,rfl,h1,h2⟩:=h;simpa using Lt r t j v h2 (by simpa using hx)
theorem wL{t:TypeId}{x y:Operand}{x':AV}{cs:List AV}{l:List Value}(hS:St S w H)(hF:FR S w ρ a)(hG:Grow S0 w0 S w)(hN:dO S0.N H0 H)(hd:DI D a)(hn:a.tmps.size=n)(ho:o.op=.store t x y)
  (hw:Region.wanted o (yielded ops a.tmps)=true) (hK:∀ρ' H' a' w',K ρ' H'→Rel D n S0 w0 H0 ρ' H' a' w'→K' a' w') (ex:rep S w x' (a.eval x)) (e1:(a.eval y).cells=l.toArray) (e2:aV S w cs l) (e3:∀u∈l,u.oneCell'=true)
  (h4:oB P o t x' cs ρ H K):rV P ops o a w K' Q':=by
 rcases h4 with h4|⟨_,nl,hnl,h4⟩
 ·exact zA hS hF hG hN hd hn ho hw hK ex e1 e2 e3 h4
 ·obtain⟨z',S',H',q0,hS',hG',hN',hr',hl'⟩:=lM nl _ S H l (fun x hx=>⟨Lt _ _ _ _ e2 (hnl x hx).1,(hnl x hx).2⟩) hS e2 h4;exact zA hS' (hF.keep hG'.le (hG'.kept hS)) (hG.trans hG') (hN.trans hN' hG.le.N) hd hn ho hw hK (gB hG'.le (hG'.kept hS) _ _ ex) e1 hr' e3 q0
theorem CV{w:World}:∀(nl:List (Nat×TypeId×Nat)) (z:List AV) (vs:List Value),(∀x∈nl,vs[x.1]?=some (.slice none 0 0))→aV S w z vs→aV S w (C4 nl z) vs
 | [],z,vs,_,h=>h
 | x :: r, z, vs, hn, h => CV r _ vs (fun y hy => hn y (by simp [hy])) (BP z vs x.1 h fun u hu => by rw[hn x (by simp)]at hu;injection hu with hu;simp only[rep];exact hu.symm)
theorem zL{o:Oper}{w1:World}{t:TypeId}{parts:Array (Nat×Operand)}(hF:FR S w1 ρ a)(hb:∀x∈o.op.operands,opB a.tmps.size x=true)(ho:o.op=.build t parts)
  (h:tY P o t parts.toList ρ H K):∃z,K (upd ρ o.dst z) H∧∃v,rep S w1 z v∧∀w,(execOp a.eval o).run P w=.ok (.value v) w:=by
 unfold tY at h;obtain⟨ps,h,hps⟩:=kL hF parts.toList (fun p hp=>hb p.2 (by rw[ho];simpa[Op.operands]using⟨p.1,by simpa using hp⟩)) h;split at h
 ·rename_i z pl nl hz hpl hnl;obtain⟨e1,e2⟩:=hps trivial;obtain⟨i,v,hi,hiz,rfl,hsz,hne,h1⟩:=jZ hz;split at h
  ·rename_i cs hcs;obtain⟨A',f1,f2,f3⟩:=oV (S:=S) (w:=w1) hi hiz h1 (CV nl _ _ (fun x hx=>(uS hnl hi hiz x hx).1) (jD _)) hpl hcs e1 (fun j i c hj=>e2 j i c hj);refine⟨_,h,.agg A',?_,fun w=>?_⟩
   ·simp only[rep];exact⟨A'.toList,by simp,f2,f3⟩
   ·have:(parts.map fun(p:Nat×Operand)=>(p.1,a.eval p.2)).toList=parts.toList.map fun p=>(p.1,a.eval p.2):=by simp
    rw[←this]at f1;simp only[execOp,ho];exact mQ (run_build w t _ A' f1)
  ·exact h.elim
 ·exact h.elim
theorem FE{t:TypeId}{parts:Array (Nat×Operand)}(hS:St S w H)(hF:FR S w ρ a)(hG:Grow S0 w0 S w)(hN:dO S0.N H0 H)(hd:DI D a)(hn:a.tmps.size=n)(ho:o.op=.build t parts)(hb:∀x∈o.op.operands,opB a.tmps.size x=true)
  (hw:Region.wanted o (yielded ops a.tmps)=true) (hK:∀ρ' H' a' w',K ρ' H'→Rel D n S0 w0 H0 ρ' H' a' w'→K' a' w') (h:tY P o t parts.toList ρ H K):rV P ops o a w K' Q':=by
 obtain⟨z,hz,v,hv,hq⟩:=zL (S:=S) (w1:=w) hF hb ho h;exact eO hw (dH (v:=v) (w':=w) (hq w) (hK _ _ _ _ hz (Rel.step hS hF hG hN hd hn hS (Grow.refl S w) (dO.refl _ _) hv)))
theorem Fi{t:TypeId}{parts:Array (Nat×Operand)}(hS:St S w H)(hF:FR S w ρ a)(hG:Grow S0 w0 S w)(hN:dO S0.N H0 H)(hd:DI D a)(hn:a.tmps.size=n)(ho:o.op=.build t parts)(hb:∀x∈o.op.operands,opB a.tmps.size x=true)
  (hw:Region.wanted o (yielded ops a.tmps)=true) (hK:∀ρ' H' a' w',K ρ' H'→Rel D n S0 w0 H0 ρ' H' a' w'→K' a' w') (h:wP P o t parts.toList ρ H K):rV P ops o a w K' Q':=by
 unfold wP at h;obtain⟨ps,h,hps⟩:=kL hF parts.toList (fun p hp=>hb p.2 (by rw[ho];simpa[Op.operands]using⟨p.1,by simpa using hp⟩)) h;split at h
 ·rename_i z pl nl hz hpl hnl;obtain⟨e1,e2⟩:=hps trivial;obtain⟨i,v,hi,hiz,rfl,hsz,hne,h1⟩:=jZ hz;obtain⟨z',S',H',q0,hS',hG',hN',hr',hl'⟩:=lM nl _ S H v.cells.toList (uS hnl hi hiz) hS (jD _) h;split at q0
  ·rename_i cs hcs;obtain⟨A',f1,f2,f3⟩:=oV (S:=S') (w:=w) (z:=z') hi hiz h1 hr' hpl hcs e1 (fun j i c hj=>by obtain⟨u,l,g1,g2,g3,g4⟩:=e2 j i c hj;exact⟨u,l,g1,g2,dN hG'.le (hG'.kept hS) _ _ g3,g4⟩);refine eO hw (dH (v:=.agg A') (w':=w) ?_ (hK _ _ _ _ q0 (Rel.step hS' (hF.keep hG'.le (hG'.kept hS)) (hG.trans hG') (hN.trans hN' hG.le.N) hd hn hS' (Grow.refl S' w) (dO.refl _ _) ?_)))
   ·have:(parts.map fun(p:Nat×Operand)=>(p.1,a.eval p.2)).toList=parts.toList.map fun p=>(p.1,a.eval p.2):=by simp
    rw[←this]at f1;simp only[execOp,ho];exact mQ (run_build w t _ A' f1)
   ·simp only[rep];exact⟨A'.toList,by simp,f2,f3⟩
  ·exact q0.elim
 ·exact h.elim
theorem Ad{t:TypeId}{x:Operand}{K2:AV→Prop}(hS:St S w H)(hF:FR S w ρ a)(hG:Grow S0 w0 S w)(hN:dO S0.N H0 H)(hd:DI D a)(hn:a.tmps.size=n)(ho:o.op=.store t x (.const (.slice none 0 0)))(hb:∀x∈o.op.operands,opB a.tmps.size x=true)
   (hw:Region.wanted o (yielded ops a.tmps)=true) (hK:∀ρ' H' a' w',K ρ' H'→Rel D n S0 w0 H0 ρ' H' a' w'→K' a' w')
   (h : bJ none (aev ρ x) fun y => match cM P t with
       | some (e,sz,_)=>kQ H ⟨e,sz,[]⟩ fun k H=>oB P o t y [.os k] ρ H K
       | none=>False):rV P ops o a w K' Q':=by
 obtain⟨x',h2,hx'⟩:=aI (S:=S) (w:=w) h;have hbx:opB a.tmps.size x=true:=hb x (by simp[ho,Op.operands]);have ex:=hx' trivial _ (cL hF hbx);split at h2
 · rename_i e sz bytes he;obtain⟨i,z,hu,hi,hsz,_,hpos,_⟩:=eG he;have q:=hS.nilRow e hpos;have h3:=h2 S.N hS.fresh;have hN2:=kO hS (r:=some ⟨e,sz,[]⟩);refine wL q.1 (hF.keep q.2.le (q.2.kept hS)) (hG.trans q.2) (hN.trans hN2 hG.le.N) hd hn ho hw hK (gB q.2.le (q.2.kept hS) _ _ ex) (l:=[.slice none 0 0]) (by simp[Act.eval,Value.cells]) ?_ (by simp[Value.oneCell']) h3;simp only[aV,rep,Sg.addRow,if_true];exact⟨_,_,rfl,⟨Nat.lt_succ_self _,rfl,_,_,_,rfl⟩,rfl⟩
 · exact h2.elim
theorem Fo{x:Operand}(hS:St S w H)(hF:FR S w ρ a)(hG:Grow S0 w0 S w)(hN:dO S0.N H0 H)(hd:DI D a)(hn:a.tmps.size=n)(ho:o.op=.move x)(hb:∀x∈o.op.operands,opB a.tmps.size x=true)
  (hw:Region.wanted o (yielded ops a.tmps)=true) (hK:∀ρ' H' a' w',K ρ' H'→Rel D n S0 w0 H0 ρ' H' a' w'→K' a' w') (h:tM x ρ o.dst H K):rV P ops o a w K' Q':=by
 unfold tM at h;split at h
 ·rename_i t;split at h
  ·rename_i j hj;split at h
   ·rename_i r hr;have hbt:=hb (.tmp t) (by simp[ho,Op.operands]);have hv:rep S w (ρ t) (a.eval (.tmp t)):=cL (x:=.tmp t) hF hbt;rw[hj]at hv
    let Hf:aC:=fun k=>if k=j then H k else none
    let Hr:aC:=fun k=>if k=j then none else H k
    have hf:∀k r',Hf k=some r'→k=j∧H k=some r':=fun k r' hk=>by
     by_cases e:k=j
     ·exact⟨e,by simpa[Hf,e]using hk⟩
     ·simp[Hf,e]at hk
    have hrr:∀k r',Hr k=some r'→k≠j∧H k=some r':=fun k r' hk=>by
     by_cases e:k=j
     ·simp[Hr,e]at hk
     ·exact⟨e,by simpa[Hr,e]using hk⟩
    have hSf:St S w Hf:=hS.drop fun k r' hk=>(hf k r' hk).2
    have hv':rep (S.froze Hf) w (.sl r.es) (a.eval (.tmp t)):=Conv.rep hSf (Conv.row j r r.es (by simp[Hf,hr]) (ConvE.refl _)) hv;have hS':St (S.froze Hf) w Hr:=by
     refine⟨?_,?_,fun k r' hk=>(hS.rows k r' (hrr k r' hk).2).keep (S.le_froze Hf) (fI.refl S w) (fun _ _=>rfl),?_,fun k k' r1 r2 hk hk' hne g hg hg'=>hS.disj k k' r1 r2 (hrr k r1 hk).2 (hrr k' r2 hk').2 hne g hg hg',hS.tabs.keep (S.le_froze Hf) (fI.refl S w)⟩
     ·rintro g (hg|hg)
      ·exact .inl (hS.ro_fz g hg)
      ·exact .inr hg
     ·rintro g (hg|⟨k,r',hk,hg⟩)
      ·exact hS.fz_lt g hg
      ·exact(hS.rows k r' (hf k r' hk).2).block_lt hg
     ·rintro k r' hk g hg (h1|⟨i,r2,hi,h2⟩)
      ·exact hS.free k r' (hrr k r' hk).2 g hg h1
      ·exact hS.disj k i r' r2 (hrr k r' hk).2 (hf i r2 hi).2 (fun e=>(hrr k r' hk).1 (e.trans (hf i r2 hi).1)) g hg h2
    have hg:Grow S w (S.froze Hf) w:=by
     refine⟨S.le_froze Hf,fun k hk=>.inl hk,rfl,rfl,rfl,Nat.le_refl _,fun _ _=>rfl,?_⟩;rintro g (hg|⟨k,r',hk,hg⟩)
     ·exact .inl hg
     ·exact .inr (hS.free k r' (hf k r' hk).2 g hg)
    have hF':FR (S.froze Hf) w (upd ρ (some t) (.sl r.es)) a:=fun t' ht'=>by
     by_cases e:t'=t
     ·subst e;have h1:=hv';simp only[upd,if_true];simpa[Act.eval,Array.getD,ht']using h1
     ·simp only[upd,if_neg e];exact(hF.keep (S.le_froze Hf) (fI.refl S w)) t' ht'
    have hk:=h Hr (by simp[Hr]) (fun k hk=>by simp[Hr,hk]);refine eO hw (dH (v:=a.eval (.tmp t)) (w':=w) ?_ (hK _ _ _ _ hk (Rel.step hS' hF' (hG.trans hg) (hN.trans (fun k _ h0=>by
     by_cases e:k=j
     ·simp[Hr,e]
     ·simp[Hr,e,h0]) hG.le.N) hd hn hS' (Grow.refl _ _) (dO.refl _ _) hv')))
    simp[execOp,ho]
   ·exact h.elim
  ·exact h.elim
 ·exact h.elim
theorem BG{l:List Nat}:∀{xs ys:List AV},CK l H xs ys→ConvL (fun k=>if k∈l then H k else none) xs ys
 | [],[],_=>.nil
 | x::xs,y::ys,h=>by
  simp only[CK]at h;obtain⟨h1,h2⟩:=h;refine .cons _ _ _ _ ?_ (BG h2);rcases h1 with rfl|⟨j,r,hj,rfl,hr,rfl⟩
  ·exact .refl _
  ·exact .row j r r.es (by rw[if_pos hj];exact hr) (ConvE.refl _)
 | [],_::_,h=>by simp[CK]at h
 | _::_,[],h=>by simp[CK]at h
theorem OL{x y:AV}{d:Option Nat}{l:List Nat}{a':Act}{w':World}(hR:Rel D n S0 w0 H0 (upd ρ d x) H a' w')(hc:Conv (fun k=>if k∈l then H k else none) x y):Rel D n S0 w0 H0 (upd ρ d y) (fun k=>if k∈l then none else H k) a' w':=by
 obtain⟨S,hS,hF,hG,hN,hd,hn⟩:=hR
 let Hf:aC:=fun k=>if k∈l then H k else none
 let Hr:aC:=fun k=>if k∈l then none else H k
 have hf:∀k r',Hf k=some r'→k∈l∧H k=some r':=fun k r' hk=>by
  by_cases e:k∈l
  ·exact⟨e,by simpa[Hf,e]using hk⟩
  ·simp[Hf,e]at hk
 have hrr:∀k r',Hr k=some r'→¬k∈l∧H k=some r':=fun k r' hk=>by
  by_cases e:k∈l
  ·simp[Hr,e]at hk
  ·exact⟨e,by simpa[Hr,e]using hk⟩
 have hSf:St S w' Hf:=hS.drop fun k r' hk=>(hf k r' hk).2
 have hS':St (S.froze Hf) w' Hr:=by
  refine⟨?_,?_,fun k r' hk=>(hS.rows k r' (hrr k r' hk).2).keep (S.le_froze Hf) (fI.refl S w') (fun _ _=>rfl),?_,fun k k' r1 r2 hk hk' hne g hg hg'=>hS.disj k k' r1 r2 (hrr k r1 hk).2 (hrr k' r2 hk').2 hne g hg hg',hS.tabs.keep (S.le_froze Hf) (fI.refl S w')⟩
  ·rintro g (hg|hg)
   ·exact .inl (hS.ro_fz g hg)
   ·exact .inr hg
  ·rintro g (hg|⟨k,r',hk,hg⟩)
   ·exact hS.fz_lt g hg
   ·exact(hS.rows k r' (hf k r' hk).2).block_lt hg
  ·rintro k r' hk g hg (h1|⟨i,r2,hi,h2⟩)
   ·exact hS.free k r' (hrr k r' hk).2 g hg h1
   ·exact hS.disj k i r' r2 (hrr k r' hk).2 (hf i r2 hi).2 (fun e=>(hrr k r' hk).1 (e▸(hf i r2 hi).1)) g hg h2
 have hg:Grow S w' (S.froze Hf) w':=by
  refine⟨S.le_froze Hf,fun k hk=>.inl hk,rfl,rfl,rfl,Nat.le_refl _,fun _ _=>rfl,?_⟩;rintro g (hg|⟨k,r',hk,hg⟩)
  ·exact .inl hg
  ·exact .inr (hS.free k r' (hf k r' hk).2 g hg)
 have hF':FR (S.froze Hf) w' (upd ρ d y) a':=fun t' ht'=>by
  have h1:=hF t' ht';cases d with
  | none=>exact hF.keep (S.le_froze Hf) (fI.refl S w') t' ht'
  | some d=>
   by_cases e:t'=d
   ·subst e;simp only[upd,if_true]at h1 ⊢;exact Conv.rep hSf hc h1
   ·simp only[upd,if_neg e]at h1 ⊢;exact gB (S.le_froze Hf) (fI.refl S w') _ _ h1
 exact⟨S.froze Hf,hS',hF',hG.trans hg,hN.trans (fun k _ h0=>by
  by_cases e:k∈l
  ·simp[e]
  ·simp[e,h0]) hG.le.N,hd,hn⟩
theorem KR{G:Option Bool}{l:Option Nat}{y:AV}{K1 K2:AV→Prop}(hk:∀z,K1 z→K2 z)(h:kE G H l y K1):kE G H l y K2:=by
 unfold kE at h ⊢;cases y with
 | rp cs off=>cases l <;> exact⟨h.1,hk _ h.2⟩
 | op k i f=>
  simp only at h ⊢;cases hr:H k with
  | none=>rw[hr]at h;exact h.elim
  | some r=>rw[hr]at h;cases l <;> exact⟨h.1,hk _ h.2⟩
 | _=>exact h.elim
theorem M7{G:Option Bool}{x:AV}{K1 K2:AV→Prop}(hk:∀z,K1 z→K2 z)(h:bJ G x K1):bJ G x K2:=by
 unfold bJ at h ⊢;split at h
 ·exact⟨h.1,hk _ h.2⟩
 ·exact hk _ h
theorem Ab{G:Option Bool}{t:TypeId}{x:Operand}{K1 K2:AV→Prop}(hk:∀z,K1 z→K2 z)(h:fO P G ρ H (.load t x) K1):fO P G ρ H (.load t x) K2:=by
 simp only[fO]at h ⊢;cases hl:ldT P t with
 | none=>rw[hl]at h;exact h.elim
 | some l=>rw[hl]at h;exact M7 (fun y hy=>KR hk hy) h
theorem J7{t:TypeId}{x:Operand}(hS:St S w H)(hF:FR S w ρ a)(hG:Grow S0 w0 S w)(hN:dO S0.N H0 H)(hd:DI D a)(hn:a.tmps.size=n)(ho:o.op=.load t x)(hb:∀x∈o.op.operands,opB n x=true)
  (hgt:Region.wanted o (yielded ops a.tmps)=true↔gt none) (hK:∀ρ' H' a' w',K ρ' H'→Rel D n S0 w0 H0 ρ' H' a' w'→K' a' w') (h:fO P none ρ H (.load t x) fun x=>Dz x ρ o.dst H K):rV P ops o a w K' Q':=by
 refine mU (K:=fun ρ' H'=>∃z,ρ'=upd ρ o.dst z∧H'=H∧Dz z ρ o.dst H K) hS hF hG hN hd hn hb hgt ?_ (by rw[ho];exact Ab (fun z hz=>⟨z,rfl,rfl,hz⟩) h);rintro ρ' H' a' w' ⟨z,rfl,rfl,hz⟩ hR;unfold Dz at hz;split at hz
 ·obtain⟨l,ys,ht,hk⟩:=hz;exact hK _ _ _ _ (hk (fun k=>if k∈l then none else H' k) (fun k e=>if_pos e) (fun k e=>if_neg e)) (OL hR (.agg _ _ (BG ht)))
 ·exact hz.elim
theorem Ah{t:TypeId}{l c:Operand}(hS:St S w H)(hF:FR S w ρ a)(hG:Grow S0 w0 S w)(hN:dO S0.N H0 H)(hd:DI D a)(hn:a.tmps.size=n)(ho:o.op=.makeSlice t l c)(hb:∀x∈o.op.operands,opB a.tmps.size x=true)
  (hw:Region.wanted o (yielded ops a.tmps)=true) (hK:∀ρ' H' a' w',K ρ' H'→Rel D n S0 w0 H0 ρ' H' a' w'→K' a' w')
  (h:bJ none (aev ρ l) fun l=>bJ none (aev ρ c) fun c=>nK P o t l c ρ H K):rV P ops o a w K' Q':=by
 rw[ho]at hb;simp only[Op.operands]at hb;obtain⟨l',h2,hl⟩:=aI (S:=S) (w:=w) h;obtain⟨c',h3,hc⟩:=aI (S:=S) (w:=w) h2;have el:=hl trivial _ (cL hF (hb l (by simp)));have ec:=hc trivial _ (cL hF (hb c (by simp)));unfold nK at h3;split at h3
 ·rename_i kl x kc y;simp only[rep]at el ec;split at h3
  ·rename_i e sz bytes he;split at h3
   ·rename_i z hz;obtain⟨⟨⟨p1,p2⟩,p3⟩,h4⟩:=h3;obtain⟨i,v,hi,hiz,rfl,hsz,hne,h1⟩:=jZ hz;obtain⟨i',z',hut,hi',hsz',hby',hpos,hbpos,hz',hzs⟩:=eG he;rw[hi]at hi';injection hi' with hi';subst hi';have hsz2:v.cells.size=sz:=by rw[hsz,hsz']
    have hyb:y≤(bytes:Int)*y:=by have:(1:Int)*y≤(bytes:Int)*y:=Int.mul_le_mul_of_nonneg_right (by omega) (by omega);omega
    have hrun:=run_make (P:=P) w t e i v hut hi hiz kl kc x y p1 p2 (by rw[hby'];omega) (by omega);have hm:(madeCells v.cells (y.toNat*sz)).toList=(List.replicate y.toNat v.cells.toList).flatten:=by rw[←hsz2];exact sH _ (by omega) _
    have htake:(madeCells v.cells (y.toNat*sz)).toList.take (x.toNat*sz)=(List.replicate x.toNat v.cells.toList).flatten:=by
     rw[hm,←hsz2];have:y.toNat=x.toNat+(y.toNat-x.toNat):=by omega
     rw[this,←List.replicate_append_replicate,List.flatten_append,List.take_append_of_le_length (by simp[List.length_flatten]),List.take_of_length_le (by simp[List.length_flatten])]
    have hrep:∀m,aV S w (List.replicate m (v.cells.toList.map lU)).flatten (List.replicate m v.cells.toList).flatten:=by
     intro m;induction m with
     | zero=>simp[aV]
     | succ m ih=>simp only[List.replicate_succ,List.flatten_cons];exact dA _ _ _ _ (jD _) ih
    rw[hsz']at hrun;have q:=hS.newRow (e:=e) (sz:=sz) (cap:=y.toNat) (es:=List.replicate x.toNat (v.cells.toList.map lU)) (xs:=(List.replicate x.toNat v.cells.toList).flatten) (cur:=madeCells v.cells (y.toNat*sz)) hpos
     (fun cs hcs=>by rw[List.eq_of_mem_replicate hcs];simp[hsz2]) (hrep _) (fun u hu=>by obtain⟨l,hl,hu⟩:=List.mem_flatten.1 hu;rw[List.eq_of_mem_replicate hl]at hu;exact h1 u hu) (by rw[List.length_replicate];omega) (by simp only[maxLen];omega) (size_madeCells _ _) (by rw[List.length_replicate];exact htake) (w':=w.alloc (.cells (madeCells v.cells (y.toNat*sz)) e)) rfl rfl rfl rfl
    refine eO hw (dH (v:=.slice (some ⟨w.heap.size,0,none⟩) x.toNat y.toNat) (w':=w.alloc (.cells (madeCells v.cells (y.toNat*sz)) e)) ?_ (hK _ _ _ _ (h4 S.N hS.fresh) (Rel.step hS hF hG hN hd hn q.1 q.2 (kO hS) ?_)))
    ·simp only[execOp,ho,el,ec];exact Ho hrun
    ·simp only[rep,Sg.addRow,if_true,List.length_replicate];exact⟨Nat.lt_succ_self _,trivial,_,_,_,rfl⟩
   ·exact h3.elim
  ·exact h3.elim
 ·exact h3.elim
theorem Bn{old new:Value}(h:∀n,Instr.sameBits (n+1) old new=true)(w:World):(Instr.keyThatStays old new).run P w=.ok new w:=by have:=h 9999;simp[Instr.keyThatStays,this]
theorem oA{ms:List MapEntry}{i:Nat}{m:MapEntry}(hi:ms[i]?=some m)(f:MapEntry→MapEntry):ms.modify i f=ms.set i (f m):=by
 apply List.ext_getElem?;intro j;rw[List.getElem?_modify,List.getElem?_set];by_cases e:i=j
 ·subst e;have hlt:i<ms.length:=(List.getElem?_eq_some_iff.1 hi).1;rw[hi];simp[hlt]
 ·simp[e]
theorem yW{t:TypeId}{m x:AV}{F:Nat→Row→TypeId×TypeId→Option Nat→Prop}(hS:St S w H){u v:Value}(hu:rep S w m u)(hv:rep S w x v)(h:zH P H t m x F):
  ∃j r kt oi g ms,F j r kt oi∧H j=some r∧u=.map (some g)∧S.loc j=.map (some g)∧w.heap[g]?=some (.map (List.toArray ms) ms.length)∧hO S w 0 r.es ms∧r.sz=2∧P.underlying t=some (.map kt.1 kt.2)∧(∀e (w':World),(Instr.checkKey e 10000 kt.1 v).run P w'=.ok () w') ∧
   ((oi=none∧∀w':World,(Instr.findKey kt.1 v ms).run P w'=.ok none w') ∨
   ∃i m cs,oi=some i∧ms[i]?=some m∧r.es[i]?=some cs∧(∀w':World,(Instr.findKey kt.1 v ms).run P w'=.ok (some (i,m.val)) w')∧m.key=v∧(∀n,Instr.sameBits (n+1) m.key v=true)∧m.born=i∧aV S w cs [m.key,m.val]):=by
 unfold zH at h;split at h
 ·rename_i j;split at h
  ·rename_i r kt hj ht;split at h
   ·rename_i oi hf;obtain⟨hp,h⟩:=h;simp only[rep]at hu;obtain⟨_,rfl,g0,hl0⟩:=hu;have hm:=(hS.rows j r hj).mp hl0;obtain⟨g,ms,h1,h2,h3,h4,h5,h6⟩:=HK ht hp hf hm hv;obtain⟨_,_,_,_,_,hsz⟩:=hm;exact⟨j,r,kt,oi,g,ms,h,hj,h1,h1,h2,h3,hsz,h4,h5,h6⟩
   ·exact h.elim
  ·exact h.elim
 ·exact h.elim
theorem pN{j:Nat}{r:Row}{q:Option Row}(hj:H j=some r):dO S.N H (bG H j q):=fun k _ h0=>by rw[aK _ _ _ _ (fun e=>by subst e;rw[hj]at h0;cases h0)];exact h0
theorem Aj{t:TypeId}{m x v:Operand}(hS:St S w H)(hF:FR S w ρ a)(hG:Grow S0 w0 S w)(hN:dO S0.N H0 H)(hd:DI D a)(hn:a.tmps.size=n)(ho:o.op=.mapUpdate t m x v)(hb:∀x∈o.op.operands,opB a.tmps.size x=true)
  (hw:Region.wanted o (yielded ops a.tmps)=true) (hK:∀ρ' H' a' w',K ρ' H'→Rel D n S0 w0 H0 ρ' H' a' w'→K' a' w')
  (h:bJ none (aev ρ m) fun m=>bJ none (aev ρ x) fun x=>bJ none (aev ρ v) fun v=>iY P o t m x v ρ H K):rV P ops o a w K' Q':=by
 rw[ho]at hb;simp only[Op.operands]at hb;obtain⟨m',h,hm⟩:=aI (S:=S) (w:=w) h;obtain⟨x',h,hx⟩:=aI (S:=S) (w:=w) h;obtain⟨v',h,hv⟩:=aI (S:=S) (w:=w) h;have em:=hm trivial _ (cL hF (hb m (by simp)));have ex:=hx trivial _ (cL hF (hb x (by simp)));have evv:=hv trivial _ (cL hF (hb v (by simp)));unfold iY at h;obtain⟨j,r,kt,oi,g,ms,hk,hj,e0,hl,hg,hents,hsz,hut,hck,hcase⟩:=yW hS em ex h;have hlt:g<w.heap.size:=(Array.getElem?_eq_some_iff.1 hg).1;rcases hcase with⟨rfl,hfk⟩|⟨i,me,cs,rfl,q1,q2,q3,q4,q5,q6,q7⟩
 ·have hents':=wN (m:=⟨a.eval x,a.eval v,ms.length⟩) (cs:=[x',v']) 0 _ _ hents (by simp[sQ _ _ _ hents]) (by simp only[aV];exact⟨_,_,rfl,ex,_,_,rfl,evv,rfl⟩);have q:=hS.setMap hj hl hents' hsz hlt;refine eO hw (pG (w':={ w with heap:=w.heap.setIfInBounds g (.map (ms++[(⟨a.eval x,a.eval v,ms.length⟩:MapEntry)]).toArray (ms++[(⟨a.eval x,a.eval v,ms.length⟩:MapEntry)]).length) }) ?_ (hK _ _ _ _ hk (Rel.step hS hF hG hN hd hn q.1 q.2 (pN hj) (by simp only[rep]))));simp[execOp,ho,e0,Instr.mapUpdate,run_underlying hut,MapKept.run_getObj_map hg,hck,hfk,MapKept.run_setObj_map _ hg]
 ·have hents':=wT (m:=⟨a.eval x,a.eval v,i⟩) (cs:=[x',v']) 0 _ _ i hents (by simp) (by simp only[aV];exact⟨_,_,rfl,ex,_,_,rfl,evv,rfl⟩);have q:=hS.setMap hj hl hents' hsz hlt;refine eO hw (pG (w':={ w with heap:=w.heap.setIfInBounds g (.map (ms.set i ⟨a.eval x,a.eval v,i⟩).toArray (ms.set i (⟨a.eval x,a.eval v,i⟩:MapEntry)).length) }) ?_ (hK _ _ _ _ hk (Rel.step hS hF hG hN hd hn q.1 q.2 (pN hj) (by simp only[rep]))));have hks:=Bn (P:=P) q5;simp[execOp,ho,e0,Instr.mapUpdate,run_underlying hut,MapKept.run_getObj_map hg,hck,q3,q1,hks,MapKept.run_setObj_map _ hg,oA q1,q6]
theorem FH{t:TypeId}{m x v:Operand}(hS:St S w H)(hF:FR S w ρ a)(hG:Grow S0 w0 S w)(hN:dO S0.N H0 H)(hd:DI D a)(hn:a.tmps.size=n)(ho:o.op=.insert t m x v)(hb:∀x∈o.op.operands,opB a.tmps.size x=true)
  (hw:Region.wanted o (yielded ops a.tmps)=true) (hK:∀ρ' H' a' w',K ρ' H'→Rel D n S0 w0 H0 ρ' H' a' w'→K' a' w')
  (h:bJ none (aev ρ m) fun m=>bJ none (aev ρ x) fun x=>bJ none (aev ρ v) fun v=>iY P o t m x v ρ H K):rV P ops o a w K' Q':=by
 rw[ho]at hb;simp only[Op.operands]at hb;obtain⟨m',h,hm⟩:=aI (S:=S) (w:=w) h;obtain⟨x',h,hx⟩:=aI (S:=S) (w:=w) h;obtain⟨v',h,hv⟩:=aI (S:=S) (w:=w) h;have em:=hm trivial _ (cL hF (hb m (by simp)));have ex:=hx trivial _ (cL hF (hb x (by simp)));have evv:=hv trivial _ (cL hF (hb v (by simp)));unfold iY at h;obtain⟨j,r,kt,oi,g,ms,hk,hj,e0,hl,hg,hents,hsz,hut,hck,hcase⟩:=yW hS em ex h;have hlt:g<w.heap.size:=(Array.getElem?_eq_some_iff.1 hg).1;rcases hcase with⟨rfl,hfk⟩|⟨i,me,cs,rfl,q1,q2,q3,q4,q5,q6,q7⟩
 ·have hents':=wN (m:=⟨a.eval x,a.eval v,ms.length⟩) (cs:=[x',v']) 0 _ _ hents (by simp[sQ _ _ _ hents]) (by simp only[aV];exact⟨_,_,rfl,ex,_,_,rfl,evv,rfl⟩);have q:=hS.setMap hj hl hents' hsz hlt;refine eO hw (pG (w':={ w with heap:=w.heap.setIfInBounds g (.map (ms++[(⟨a.eval x,a.eval v,ms.length⟩:MapEntry)]).toArray (ms++[(⟨a.eval x,a.eval v,ms.length⟩:MapEntry)]).length) }) ?_ (hK _ _ _ _ hk (Rel.step hS hF hG hN hd hn q.1 q.2 (pN hj) (by simp only[rep]))));simp[execOp,ho,e0,Instr.mapUpdate,run_underlying hut,MapKept.run_getObj_map hg,hck,hfk,MapKept.run_setObj_map _ hg]
 ·have hents':=wT (m:=⟨a.eval x,a.eval v,i⟩) (cs:=[x',v']) 0 _ _ i hents (by simp) (by simp only[aV];exact⟨_,_,rfl,ex,_,_,rfl,evv,rfl⟩);have q:=hS.setMap hj hl hents' hsz hlt;refine eO hw (pG (w':={ w with heap:=w.heap.setIfInBounds g (.map (ms.set i ⟨a.eval x,a.eval v,i⟩).toArray (ms.set i (⟨a.eval x,a.eval v,i⟩:MapEntry)).length) }) ?_ (hK _ _ _ _ hk (Rel.step hS hF hG hN hd hn q.1 q.2 (pN hj) (by simp only[rep]))));have hks:=Bn (P:=P) q5;simp[execOp,ho,e0,Instr.mapUpdate,run_underlying hut,MapKept.run_getObj_map hg,hck,q3,q1,hks,MapKept.run_setObj_map _ hg,oA q1,q6]
theorem Bs{t:TypeId}{m x:Operand}(hS:St S w H)(hF:FR S w ρ a)(hG:Grow S0 w0 S w)(hN:dO S0.N H0 H)(hd:DI D a)(hn:a.tmps.size=n)(ho:o.op=.mapEntry t m x)(hb:∀x∈o.op.operands,opB a.tmps.size x=true)
  (hw:Region.wanted o (yielded ops a.tmps)=true) (hK:∀ρ' H' a' w',K ρ' H'→Rel D n S0 w0 H0 ρ' H' a' w'→K' a' w')
  (h:bJ none (aev ρ m) fun m=>bJ none (aev ρ x) fun x=>tK P o t m x ρ H K):rV P ops o a w K' Q':=by
 rw[ho]at hb;simp only[Op.operands]at hb;obtain⟨m',h,hm⟩:=aI (S:=S) (w:=w) h;obtain⟨x',h,hx⟩:=aI (S:=S) (w:=w) h;have em:=hm trivial _ (cL hF (hb m (by simp)));have ex:=hx trivial _ (cL hF (hb x (by simp)));unfold tK at h;obtain⟨j,r,kt,oi,g,ms,hk,hj,e0,hl,hg,hents,hsz,hut,hck,hcase⟩:=yW hS em ex h;have hlt:g<w.heap.size:=(Array.getElem?_eq_some_iff.1 hg).1;rcases hcase with⟨rfl,hfk⟩|⟨i,me,cs,rfl,q1,q2,q3,q4,q5,q6,q7⟩
 ·simp only at hk;split at hk
  ·rename_i z hz;obtain⟨zv,hzr,hzz⟩:=yR hz;have hents':=wN (m:=⟨a.eval x,zv,ms.length⟩) (cs:=[x',z]) 0 _ _ hents (by simp[sQ _ _ _ hents]) (by simp only[aV];exact⟨_,_,rfl,ex,_,_,rfl,hzz S w,rfl⟩);have q:=hS.setMap hj hl hents' hsz hlt;refine eO hw (dH (v:=.tuple #[zv,goInt ms.length]) (w':={ w with heap:=w.heap.setIfInBounds g (.map (ms++[(⟨a.eval x,zv,ms.length⟩:MapEntry)]).toArray (ms++[(⟨a.eval x,zv,ms.length⟩:MapEntry)]).length) }) ?_ (hK _ _ _ _ hk (Rel.step hS hF hG hN hd hn q.1 q.2 (pN hj) ?_)))
   ·simp[execOp,ho,e0,Instr.mapEntry,run_underlying hut,MapKept.run_getObj_map hg,hck,hfk,hzr,MapKept.run_setObj_map _ hg]
   ·simp only[rep,aV];exact⟨[zv,goInt ms.length],by simp,_,_,rfl,hzz _ _,_,_,rfl,by rw[←sQ _ _ _ hents];rfl,rfl⟩
  ·exact hk.elim
 ·simp only at hk;have hsame:ms.set i ⟨a.eval x,me.val,i⟩=ms:=by
   have e0:(⟨a.eval x,me.val,i⟩:MapEntry)=me:=by rw[←q4,←q6]
   rw[e0];apply List.ext_getElem?;intro k;rw[List.getElem?_set];by_cases e:i=k
   ·subst e;have hlt:i<ms.length:=(List.getElem?_eq_some_iff.1 q1).1;rw[q1];simp[hlt]
   ·simp[e]
  have hm:({ w with heap:=w.heap.setIfInBounds g (.map ms.toArray ms.length) }:World)=w:=by
   have hh:w.heap.setIfInBounds g (.map ms.toArray ms.length)=w.heap:=by
    apply Array.ext_getElem?;intro k;rw[Array.getElem?_setIfInBounds];by_cases e:g=k
    ·subst e;rw[hg];simp[hlt]
    ·simp[e]
   rw[hh]
  obtain⟨xk,xv,rfl,r1,r2⟩:=BV q7;have e1:(r.es.getD i []).getD 1 .any=xv:=by simp[List.getD,q2]
  rw[e1]at hk;refine eO hw (dH (v:=.tuple #[me.val,goInt i]) (w':=w) ?_ (hK _ _ _ _ hk (Rel.step hS hF hG hN hd hn hS (Grow.refl S w) (dO.refl _ _) ?_)))
  ·have hks:=Bn (P:=P) q5;have hset:=MapKept.run_setObj_map (P:=P) (.map (List.toArray ms) ms.length) hg;rw[hm]at hset;simp[execOp,ho,e0,Instr.mapEntry,run_underlying hut,MapKept.run_getObj_map hg,hck,q3,q1,hks,oA q1,hsame,hset,q6]
  ·simp only[rep,aV];exact⟨[me.val,goInt i],by simp,_,_,rfl,r2,_,_,rfl,rfl,rfl⟩
theorem Em:∀(i:Nat) (es:List (List AV)) (ms:List MapEntry) (j:Nat) {m:MapEntry},hO S w i es ms→ms[j]?=some m→ms.findIdx? (fun e=>(e.born:Int) == ((i+j:Nat):Int))=some j
 | _,[],ms,j,m,h,hj=>by simp only[hO]at h;subst h;simp at hj
 | i,c::r,ms,0,m,h,hj=>by simp only[hO]at h;obtain⟨m0,t,rfl,h1,_,h3⟩:=h;simp[List.findIdx?_cons,h1]
 | i,c::r,ms,j+1,m,h,hj=>by
  simp only[hO]at h;obtain⟨m0,t,rfl,h1,_,h3⟩:=h;have ih:=Em (i+1) r t j h3 (by simpa using hj);have hne:((m0.born:Int) == ((i+(j+1):Nat):Int))=false:=by simp[h1];omega
  rw[List.findIdx?_cons,hne,show i+(j+1)=i+1+j by omega,ih];rfl
theorem yD{t:TypeId}{m s v:Operand}(hS:St S w H)(hF:FR S w ρ a)(hG:Grow S0 w0 S w)(hN:dO S0.N H0 H)(hd:DI D a)(hn:a.tmps.size=n)(ho:o.op=.entryStore t m s v)(hb:∀x∈o.op.operands,opB a.tmps.size x=true)
  (hw:Region.wanted o (yielded ops a.tmps)=true) (hK:∀ρ' H' a' w',K ρ' H'→Rel D n S0 w0 H0 ρ' H' a' w'→K' a' w')
  (h:bJ none (aev ρ m) fun m=>bJ none (aev ρ s) fun s=>bJ none (aev ρ v) fun v=>oJ o m s v ρ H K):rV P ops o a w K' Q':=by
 rw[ho]at hb;simp only[Op.operands]at hb;obtain⟨m',h,hm⟩:=aI (S:=S) (w:=w) h;obtain⟨s',h,hs⟩:=aI (S:=S) (w:=w) h;obtain⟨v',h,hv⟩:=aI (S:=S) (w:=w) h;have em:=hm trivial _ (cL hF (hb m (by simp)));have es:=hs trivial _ (cL hF (hb s (by simp)));have evv:=hv trivial _ (cL hF (hb v (by simp)));unfold oJ at h;split at h
 ·rename_i j kd i _ _;split at h
  ·rename_i r hj;obtain⟨⟨i0,i1⟩,h⟩:=h;simp only[rep]at em es;obtain⟨_,e0,g0,hl0⟩:=em;rw[e0]at hl0;obtain⟨g,ms,hl,hg,hents,hsz⟩:=(hS.rows j r hj).mp hl0;have hlt:g<w.heap.size:=(Array.getElem?_eq_some_iff.1 hg).1;obtain⟨me,g1,g2,g3⟩:=GG 0 _ _ i.toNat hents (by omega);obtain⟨xk,xv,e1,r1,r2⟩:=BV g3;have e2:(r.es.getD i.toNat []).getD 0 .any=xk:=by rw[e1];rfl
   rw[e2]at h;have hents':=wT (m:=⟨me.key,a.eval v,me.born⟩) (cs:=[xk,v']) 0 _ _ i.toNat hents (by simpa using g2) (by simp only[aV];exact⟨_,_,rfl,r1,_,_,rfl,evv,rfl⟩);have q:=hS.setMap hj hl hents' hsz hlt;have hfi:=Em 0 _ _ i.toNat hents g1;rw[Nat.zero_add,Int.toNat_of_nonneg i0]at hfi;refine eO hw (pG (w':={ w with heap:=w.heap.setIfInBounds g (.map (ms.set i.toNat ⟨me.key,a.eval v,me.born⟩).toArray (ms.set i.toNat (⟨me.key,a.eval v,me.born⟩:MapEntry)).length) }) ?_ (hK _ _ _ _ h (Rel.step hS hF hG hN hd hn q.1 q.2 (pN hj) (by simp only[rep]))));rw[hl]at e0;simp[execOp,ho,e0,es,asInt,asIntOf,Instr.entryStore,MapKept.run_getObj_map hg,hfi,MapKept.run_setObj_map _ hg,oA g1]
  ·exact h.elim
 ·exact h.elim
theorem Cr{t:TypeId}(hS:St S w H)(hF:FR S w ρ a)(hG:Grow S0 w0 S w)(hN:dO S0.N H0 H)(hd:DI D a)(hn:a.tmps.size=n)(ho:o.op=.makeMap t none)
  (hw:Region.wanted o (yielded ops a.tmps)=true) (hK:∀ρ' H' a' w',K ρ' H'→Rel D n S0 w0 H0 ρ' H' a' w'→K' a' w')
  (h:kQ H ⟨0,2,[]⟩ fun k H'=>K (upd ρ o.dst (.om k)) H'):rV P ops o a w K' Q':=by
 have q:=hS.newMap (w':=w.alloc (.map #[] 0)) rfl rfl rfl rfl;refine eO hw (dH (v:=.map (some w.heap.size)) (w':=w.alloc (.map #[] 0)) ?_ (hK _ _ _ _ (h S.N hS.fresh) (Rel.step hS hF hG hN hd hn q.1 q.2 (kO hS) ?_)))
 ·simp[execOp,ho,Instr.makeMap]
 ·simp only[rep,Sg.addRow,if_true];exact⟨Nat.lt_succ_self _,trivial,_,rfl⟩
theorem tR{quiet:Bool}(hops:∀o∈ops,gO n o=true)(hS:St S w H)(hF:FR S w ρ a)(hG:Grow S0 w0 S w)(hN:dO S0.N H0 H)(hd:DI D a)(hn:a.tmps.size=n)(hb:gO n o=true)
   (hK:∀ρ' H' a' w',K ρ' H'→Rel D n S0 w0 H0 ρ' H' a' w'→K' a' w') (hP:∀ch a w,DI D a→PW pv Z S0 w0 H0 ch w→Q' (.panic ch) a w) (h:aop P (cQ P pv Z) (dE P) mt quiet ops o ρ H K):rV P ops o a w K' Q':=by
 obtain⟨hbo,_⟩:=qQ hb;unfold aop at h;obtain⟨G,h2,hgt⟩:=qX hops hF hn h;clear h;have h:=h2;clear h2;split at h
 · -- assign
   rename_i x ho;unfold wM at h;split at h
   · rename_i hmt;obtain⟨_,rfl,_,hx⟩:=hmt;have hx:x=.const (.slice none 0 0):=by
       unfold nS at hx;split at hx
       · rfl
       · simp at hx
     subst hx;split at h
     · rename_i e sz bytes he;obtain⟨i,z,hu,hi,hsz,_,hpos,_⟩:=eG he;have hw:=cX hgt rfl;have q:=hS.nilRow e hpos;refine eO hw (dH (v:=.slice none 0 0) (w':=w) (by simp[execOp,ho,Act.eval]) (hK _ _ _ _ (h S.N hS.fresh) (Rel.step hS hF hG hN hd hn q.1 q.2 (kO hS) ?_)));simp only[rep,Sg.addRow,if_true];exact⟨Nat.lt_succ_self _,trivial,_,_,_,rfl⟩
     · exact h.elim
   · exact mU hS hF hG hN hd hn hbo hgt hK (by rw[ho];exact h)
 · -- alloc
   rename_i t ho;split at h
   · rename_i z hz;obtain⟨rfl,_,h⟩:=h;have hw:=cX hgt rfl;split at h
     · split at h
       · rename_i nl hnl;exact IA hS hF hG hN hd hn ho hz hw hK hnl h
       · exact h.elim
     obtain⟨v,i,hi,rfl,h1,hne,hrun⟩:=Mi hz (.tuple #[]) w;obtain⟨S',q1,q2,q3⟩:=xX (t:=t) (cs:=v.cells.toList.map lU) (l:=v.cells.toList) hS (by simp;omega) (jD _) h1;refine eO hw (dH (v:=.pointer (some ⟨w.heap.size,0,none⟩)) (w':=w.alloc (.cells v.cells t)) (by simp[execOp,ho,hrun]) (hK _ _ _ _ (h S.N hS.fresh) (Rel.step hS hF hG hN hd hn (by simpa using q1) (by simpa using q2) (kO hS) (by simpa using q3))))
   · exact h.elim
 · -- box
   rename_i t x ho;obtain⟨rfl,_,h⟩:=h;have hw:=cX hgt rfl;obtain⟨y,h2,hy⟩:=aI (S:=S) (w:=w) h;obtain⟨cs,h3,hcs⟩:=qE (S:=S) (w:=w) h2;have hx:opB a.tmps.size x=true:=hn▸hbo x (by simp[ho,Op.operands]);obtain⟨l,e1,e2,e3⟩:=hcs _ (hy trivial _ (cL hF hx));have hrun:(execOp a.eval o).run P w=.ok (.value (.pointer (some ⟨w.heap.size,0,none⟩))) (w.alloc (.cells l.toArray t)):=by simp[execOp,ho,QD,e1]
   unfold Q8 at h3;split at h3
   · obtain⟨hpos,h4⟩:=h3;obtain⟨S',q1,q2,q3⟩:=xX (t:=t) hS hpos e2 e3;exact eO hw (dH hrun (hK _ _ _ _ (h4 S.N hS.fresh) (Rel.step hS hF hG hN hd hn q1 q2 (kO hS) q3)))
   · have q:=hS.newRo (o:=.cells l.toArray t) (w':=w.alloc (.cells l.toArray t)) rfl rfl rfl rfl;refine eO hw (dH hrun (hK _ _ _ _ h3 (Rel.step hS hF hG hN hd hn q.1 q.2 (dO.refl _ _) ?_)));simp only[rep];refine⟨w.heap.size,0,by simp,.inr rfl,?_⟩;refine iK _ l 0 (dN q.2.le (q.2.kept hS) _ _ e2) e3 fun j u hj=>?_
     rw[cell_of_row (w.alloc (.cells l.toArray t)) w.heap.size (0+j) l.toArray t (0,0) (heap_alloc_new w _)];simpa using hj
 · -- buildSlice
   rename_i t m parts ho;obtain⟨_,h⟩:=h;obtain⟨ps,h2,hps⟩:=kL hF parts.toList (fun p hp=>hn▸hbo p.2 (by rw[ho];simpa[Op.operands]using⟨p.1,by simpa using hp⟩)) h;unfold kG at h2;split at h2
   · rename_i e sz bytes he;obtain⟨⟨p1,p2,p3⟩,h3⟩:=h2;have go:∀(_:gt G),∃xs:List Value,(execOp a.eval o).run P w=.ok (.value (.slice (some ⟨w.heap.size,0,none⟩) m m)) (w.alloc (.cells xs.toArray e))∧aV S w (ps.map (·.2)).flatten xs∧(∀u∈xs,u.oneCell'=true)∧ps.length=m∧xs.length=m*sz:=fun hg=>by
       obtain⟨f1,f2⟩:=hps hg;have hl:(parts.map fun(p:Nat×Operand)=>(p.1,a.eval p.2)).toList=parts.toList.map fun p=>(p.1,a.eval p.2):=by simp
       rw[←hl]at f1 f2;obtain⟨xs,g1,g2,g3,g4,g5⟩:=Bx (w:=w) he p1 p2 f1 f2 p3;refine⟨xs,?_,g2,g3,g4,g5⟩;simp only[execOp,ho];exact Ho g1
     obtain⟨inf,z,hu,hi,hsz,_,hpos,_⟩:=eG he;split at h3
     · rename_i hmt;obtain⟨_,rfl⟩:=hmt;have hw:=cX hgt rfl;obtain⟨xs,g1,g2,g3,g4,g5⟩:=go trivial;have hlen:(ps.map (·.2)).length=m:=by simpa using g4
       have q:=hS.newRow (e:=e) (sz:=sz) (cap:=m) (es:=ps.map (·.2)) (xs:=xs) (cur:=xs.toArray) hpos (fJ.1 p2) g2 g3 (by omega) (by simp only[maxLen];have:m≤m*sz:=Nat.le_mul_of_pos_right _ hpos;omega) (by simpa using g5)
         (by rw[hlen,List.take_of_length_le (by simp[g5])]) (w':=w.alloc (.cells xs.toArray e)) rfl rfl rfl rfl
       refine eO hw (dH g1 (hK _ _ _ _ (h3 S.N hS.fresh) (Rel.step hS hF hG hN hd hn q.1 q.2 (kO hS) ?_)));simp only[rep,Sg.addRow,if_true];exact⟨Nat.lt_succ_self _,by rw[hlen],_,_,_,rfl⟩
     · refine And.symm ⟨fun hw=>?_,fun hw=>?_⟩
       · have hgG:¬gt G:=fun h=>by rw[hgt.2 h]at hw;simp at hw
         exact hK _ _ _ _ h3 (Rel.step hS hF hG hN hd hn hS (Grow.refl S w) (dO.refl _ _) (eA hgG))
       have hgG:=hgt.1 hw;obtain⟨xs,g1,g2,g3,g4,g5⟩:=go hgG;have hlen:(ps.map (·.2)).length=m:=by simpa using g4
       have q:=hS.newRo (o:=.cells xs.toArray e) (w':=w.alloc (.cells xs.toArray e)) rfl rfl rfl rfl;refine dH g1 (hK _ _ _ _ h3 (Rel.step hS hF hG hN hd hn q.1 q.2 (dO.refl _ _) (eS hgG ?_)));simp only[rep];refine⟨_,_,_,rfl,hlen,Nat.le_refl _,by simp only[maxLen];have:m≤m*sz:=Nat.le_mul_of_pos_right _ hpos;omega,.inr ⟨w.heap.size,0,sz,rfl,.inr rfl,hpos,?_⟩⟩;refine lR _ _ (fJ.1 p2) (iK _ xs 0 (dN q.2.le (q.2.kept hS) _ _ g2) g3 fun j u hj=>?_);rw[cell_of_row (w.alloc (.cells xs.toArray e)) w.heap.size (0+j) xs.toArray e (0,0) (heap_alloc_new w _)];simpa using hj
   · exact h2.elim
 · -- store
   rename_i t x y ho;obtain⟨rfl,_,h⟩:=h;have hw:=cX hgt rfl;split at h
   · rename_i hny;have hy:y=.const (.slice none 0 0):=by
       unfold nS at hny;split at hny
       · rfl
       · simp at hny
     subst hy;exact Ad (K2:=fun _=>True) hS hF hG hN hd hn ho (fun x hx=>hn▸hbo x hx) hw hK h
   obtain⟨x',h2,hx'⟩:=aI (S:=S) (w:=w) h;obtain⟨y',h3,hy'⟩:=aI (S:=S) (w:=w) h2;obtain⟨cs,h4,hcs⟩:=qE (S:=S) (w:=w) h3;have hbx:opB a.tmps.size x=true:=hn▸hbo x (by simp[ho,Op.operands]);have hby:opB a.tmps.size y=true:=hn▸hbo y (by simp[ho,Op.operands]);have ex:=hx' trivial _ (cL hF hbx);obtain⟨l,e1,e2,e3⟩:=hcs _ (hy' trivial _ (cL hF hby));exact wL hS hF hG hN hd hn ho hw hK ex e1 e2 e3 h4
 · rename_i c ho;exact Ib hS hF hG hN hd hn ho hbo hgt hK hP h
 all_goals first
   | exact h.elim
   | (rename_i ho; split at h
      · obtain⟨rfl,_,h⟩:=h;exact Fo hS hF hG hN hd hn ho (fun x hx=>hn▸hbo x hx) (cX hgt rfl) hK h
      · exact mU hS hF hG hN hd hn hbo hgt hK (by rw[ho];exact h))
   | (rename_i ho; split at h
      · obtain⟨rfl,_,h⟩:=h;exact J7 hS hF hG hN hd hn ho hbo hgt hK h
      · exact mU hS hF hG hN hd hn hbo hgt hK (by rw[ho];exact h))
   | (rename_i ho; split at h
      · obtain⟨rfl,h⟩:=h;split at h
        · exact FE hS hF hG hN hd hn ho (fun x hx=>hn▸hbo x hx) (cX hgt rfl) hK h
        · exact Fi hS hF hG hN hd hn ho (fun x hx=>hn▸hbo x hx) (cX hgt rfl) hK h
      · exact mU hS hF hG hN hd hn hbo hgt hK (by rw[ho];exact h))
   | (rename_i ho;obtain⟨rfl,_,h⟩:=h;exact Ah hS hF hG hN hd hn ho (fun x hx=>hn▸hbo x hx) (cX hgt rfl) hK h)
   | (rename_i ho;exact mU hS hF hG hN hd hn hbo hgt hK (by rw[ho];exact h))
   | (rename_i ho;obtain⟨rfl,_,h⟩:=h;exact Cr hS hF hG hN hd hn ho (cX hgt rfl) hK h)
   | (rename_i ho;obtain⟨rfl,_,h⟩:=h;exact Aj hS hF hG hN hd hn ho (fun x hx=>hn▸hbo x hx) (cX hgt rfl) hK h)
   | (rename_i ho;obtain⟨rfl,_,h⟩:=h;exact FH hS hF hG hN hd hn ho (fun x hx=>hn▸hbo x hx) (cX hgt rfl) hK h)
   | (rename_i ho;obtain⟨rfl,_,h⟩:=h;exact Bs hS hF hG hN hd hn ho (fun x hx=>hn▸hbo x hx) (cX hgt rfl) hK h)
   | (rename_i ho;obtain⟨rfl,_,h⟩:=h;exact yD hS hF hG hN hd hn ho (fun x hx=>hn▸hbo x hx) (cX hgt rfl) hK h)
end
end Go.Aw
end
