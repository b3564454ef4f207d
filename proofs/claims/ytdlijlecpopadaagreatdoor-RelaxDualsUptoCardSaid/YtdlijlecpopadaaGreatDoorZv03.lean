/- Texts joined by a program: AwOps3, AwMap. -/
import Derived.MapKept
import Derived.Test.YtdlijlecpopadaaGreatDoorZv02
set_option linter.unusedSimpArgs false
set_option linter.unusedVariables false
set_option maxRecDepth 100000
section
namespace Go.Aw
open Go.RowKit
section
variable{P:Program}{S:Sg}{H:aF}{w:World}{G:Option Bool}{K:AV→Prop}
theorem gZ{n:Nat}:∀{l:List (List AV)},dK n l↔∀cs∈l,cs.length=n
 | []=>by simp[dK]
 | x::r=>by simp[dK,gZ (l:=r)]
theorem Kz{α:Type}{n:Nat}{f:α→List AV}(h:∀x,(f x).length=n)(l:List α):dK n (l.map f):=gZ.2 fun cs hc=>by
 obtain⟨x,_,rfl⟩:=List.mem_map.1 hc;exact h x
theorem RF{b:Bool}{u:Value}(h:rep S w (.v (.bool b)) u):u=.bool b:=by simpa only[rep]using h
theorem qD{c:Bool}{x y:AV}{u v:Value}(hx:c=true→rep S w x u)(hy:c=false→rep S w y v):rep S w (rB c x y) (if c then u else v):=by
 unfold rB;split
 · cases c
   · have:=hy rfl;simp only[rep]at this ⊢;subst this;simp
   · have:=hx rfl;simp only[rep]at this ⊢;subst this;simp
 · cases c
   · have:=hy rfl;simp only[rep]at this ⊢;subst this;simp
   · have:=hx rfl;simp only[rep]at this ⊢;subst this;simp
 · cases c
   · have:=hy rfl;simp only[rep]at this ⊢;subst this;simp
   · have:=hx rfl;simp only[rep]at this ⊢;subst this;simp
 · cases c
   · simpa using hy rfl
   · simpa using hx rfl
theorem G7{c:Bool}{x y:AV}(h:wI G c x y K):
   ∃z,K z∧(gt G→∀u v,rep S w x u→rep S w y v→rep S w z (if c then u else v)):=by
 unfold wI at h;split at h
 · refine⟨_,h.2.2,fun hg u v hu hv=>qD (fun hc=>?_) (fun hc=>?_)⟩
   · simp only[rep]at hu;exact hu.1 (h.1 hg hc)
   · simp only[rep]at hv;exact hv.1 (h.2.1 hg hc)
 · refine⟨_,h.2,fun hg u v hu hv=>qD (fun hc=>?_) (fun _=>hv)⟩
   simp only[rep]at hu;exact hu.1 (h.1 hg hc)
 · refine⟨_,h.2,fun hg u v hu hv=>qD (fun _=>hu) (fun hc=>?_)⟩
   simp only[rep]at hv;exact hv.1 (h.1 hg hc)
 · exact⟨_,h,fun _ u v hu hv=>qD (fun _=>hu) (fun _=>hv)⟩
theorem Dk{v:Value}(h:v.oneCell'=true):v.cells=#[v]:=by
 cases v <;> first|rfl|simp[Value.oneCell']at h
theorem sW{x:AV}{K:List AV→Prop}(h:kT x K):∃cs,K cs∧∀u,rep S w x u→∃l:List Value,u.cells=l.toArray∧aS S w cs l∧(∀v∈l,v.oneCell'=true):=by
 have one:∀(x:AV) (u:Value),rep S w x u→u.oneCell'=true→∃l:List Value,u.cells=l.toArray∧aS S w [x] l∧(∀v∈l,v.oneCell'=true):=fun x u hu h1=>
   ⟨[u],Dk h1,by simp only[aS];exact⟨u,[],rfl,hu,rfl⟩,by simpa using h1⟩
 unfold kT at h;split at h
 · refine⟨_,h,fun u hu=>?_⟩
   simp only[rep]at hu;obtain⟨l,rfl,h1,h2⟩:=hu;exact⟨l,rfl,h1,h2⟩
 · refine⟨_,h.2,fun u hu=>one _ u hu ?_⟩
   simp only[rep]at hu;subst hu;exact h.1
 · refine⟨_,h,fun u hu=>one _ u hu ?_⟩
   simp only[rep]at hu;obtain⟨_,_,_,rfl,_⟩:=hu;rfl
 · refine⟨_,h,fun u hu=>one _ u hu ?_⟩
   simp only[rep]at hu;obtain⟨_,_,rfl,_⟩:=hu;rfl
 · refine⟨_,h,fun u hu=>one _ u hu ?_⟩
   simp only[rep]at hu;obtain⟨_,_,_,_,_,rfl⟩:=hu;rfl
 · refine⟨_,h,fun u hu=>one _ u hu ?_⟩
   simp only[rep]at hu;obtain⟨_,_,_,_,_,rfl⟩:=hu;rfl
 · exact h.elim
theorem Af(v:Value):rep S w (oA v) v:=by
 unfold oA;split
 · unfold rep
   exact⟨none,0,0,rfl,rfl,Nat.le_refl _,Nat.zero_le _,.inl rfl⟩
 · exact kS
theorem kG:∀(l:List Value),aS S w (l.map oA) l
 | []=>by simp[aS]
 | v::r=>by simp only[List.map_cons,aS];exact⟨v,r,rfl,Af v,kG r⟩
theorem Ab:∀(l:List Value) (i:Nat) (A:Array Value) (o:Nat),o+i+l.length≤A.size →
   ((l.zipIdx i).foldl (fun cs (p:Value×Nat)=>cs.setIfInBounds (o+p.2) p.1) A).toList=A.toList.take (o+i)++l++A.toList.drop (o+i+l.length)
 | [],i,A,o,h=>by simp
 | v::r,i,A,o,h=>by
   simp only[List.zipIdx_cons,List.foldl_cons,List.length_cons]at h ⊢;rw[Ab r (i+1) _ o (by simp;omega)];have e1:(A.setIfInBounds (o+i) v).toList=A.toList.set (o+i) v:=by simp
   rw[e1,show o+(i+1)=o+i+1 by omega,List.take_set,List.drop_set_of_lt (by omega)];have hlt:o+i<A.toList.length:=by simp;omega
   have e2:(List.take (o+i+1) A.toList).set (o+i) v=List.take (o+i) A.toList++[v]:=by
     rw[List.take_succ_eq_append_getElem hlt,List.set_append_right _ _ (by simp;omega)];have:(List.take (o+i) A.toList).length=o+i:=by rw[List.length_take];omega
     rw[this,Nat.sub_self];rfl
   rw[e2];simp only[List.append_assoc,List.singleton_append,List.cons_append,List.nil_append];rw[show o+i+1+r.length=o+i+(r.length+1)by omega]
theorem uJ{places:List (Nat×Nat)}{place:Nat→Option (Nat×Nat)}(hpl:∀i on,places[i]?=some on→place i=some on):∀(parts:List (Nat×List AV)) (vs:List (Nat×Value)) (cs:List AV) (A:Array Value) (cs':List AV),
   oK places cs parts=some cs'→aS S w cs A.toList→(∀v∈A.toList,v.oneCell'=true) →
   parts.length=vs.length→(∀(j i:Nat) (c:List AV),parts[j]?=some (i,c)→∃(v:Value) (l:List Value),vs[j]?=some (i,v)∧v.cells=List.toArray l∧aS S w c l∧∀u∈l,u.oneCell'=true) →
   ∃A',Instr.fill place A vs=some A'∧aS S w cs' A'.toList∧(∀v∈A'.toList,v.oneCell'=true)
 | [],vs,cs,A,cs',hf,hr,h1,hl,_=>by
   simp only[oK]at hf;injection hf with hf;subst hf;have:vs=[]:=List.eq_nil_of_length_eq_zero (by simpa using hl.symm);subst this;exact⟨A,rfl,hr,h1⟩
 | (i,c)::rest,vs,cs,A,cs',hf,hr,h1,hl,hv=>by
   obtain⟨v,l,e1,e2,e3,e4⟩:=hv 0 i c (by simp);cases vs with
   | nil=>simp at e1
   | cons q vs=>
     simp at e1;subst e1;simp only[oK]at hf;cases hp:places[i]? with
     | none=>simp[hp]at hf
     | some on=>
       obtain⟨off,n⟩:=on;simp only[hp]at hf;split at hf
       · rename_i hc
         have hll:l.length=n:=by rw[←hc.1];exact fT _ _ e3
         have hA:A.toList.length=cs.length:=fT _ _ hr;have hA':A.size=cs.length:=by simpa using hA
         have hz:=Ab l 0 A off (by rw[hll,hA'];have:=hc.2;omega);simp only[Nat.add_zero]at hz;have hrep:aS S w (cs.take off++c++cs.drop (off+n)) (A.toList.take off++l++A.toList.drop (off+l.length)):=by
           rw[hll];exact cZ _ _ _ _ (cZ _ _ _ _ (pA _ _ _ hr) e3) (rL _ _ _ hr)
         have h1':∀u∈A.toList.take off++l++A.toList.drop (off+l.length),u.oneCell'=true:=by
           intro u hu;simp only[List.mem_append]at hu;rcases hu with(hu|hu)|hu
           · exact h1 u (List.mem_of_mem_take hu)
           · exact e4 u hu
           · exact h1 u (List.mem_of_mem_drop hu)
         rw[←hz]at hrep h1';obtain⟨A',f1,f2,f3⟩:=uJ hpl rest vs _ _ cs' hf hrep h1' (by simpa using hl) (fun j i c hj=>by simpa using hv (j+1) i c (by simpa using hj));refine⟨A',?_,f2,f3⟩;simp only[Instr.fill,hpl i _ hp,e2,List.size_toArray,hll];rw[if_neg (by have:=hc.2;simp[hA'];omega)];rw[←f1]
         congr 1
         rw[←Array.foldl_toList];simp
       · simp at hf
theorem lE{t:TypeId}{z:List AV}(h:eH P t=some z):∃i v,P.info? t=some i∧i.zero=some v∧z=v.cells.toList.map oA∧v.cells.size=i.size∧i.size≠0∧(∀u∈v.cells.toList,u.oneCell'=true):=by
 unfold eH at h;cases hi:P.info? t with
 | none=>simp[hi]at h
 | some i=>
   cases hz:i.zero with
   | none=>simp[hi,hz]at h
   | some v=>
     simp only[hi,hz]at h;split at h
     · rename_i hc
       injection h with h;exact⟨i,v,rfl,hz,h.symm,hc.1,hc.2.1,fun u hu=>List.all_eq_true.1 hc.2.2 u hu⟩
     · simp at h
theorem aL{x:AV}{k:AV→Prop}(h:bH G x k):∃y,k y∧(gt G→∀u,rep S w x u→rep S w y u):=by
 unfold bH at h;split at h
 · refine⟨_,h.2,fun hg u hu=>?_⟩
   simp only[rep]at hu;refine hu.1 ?_;have:=h.1;cases G with
   | none=>exact this
   | some b=>exact this hg
 · exact⟨_,h,fun _ u hu=>hu⟩
theorem OE{op:UnOp}{x:AV}(h:aun op x K):∃z,K z∧∀u,rep S w x u→sI P S H w z (Op.unary op u):=by
 unfold aun at h;split at h
 · refine⟨_,h,fun u hu=>?_⟩
   simp only[rep]at hu;subst hu;exact gT kS fun w'=>by simp[Op.unary]
 · refine⟨_,h,fun u hu=>?_⟩
   simp only[rep]at hu;subst hu;exact gT kS fun w'=>by simp[Op.unary,Op.intArith]
 · exact h.elim
theorem EZ{t:TypeId}{k:IntKind}(h:Bb P t=some k):P.underlying t=some (.int k):=by
 unfold Bb at h;split at h
 · rename_i hk;injection h with h;subst h;exact hk
 · simp at h
theorem GX{t:TypeId}(h:zI P t=true):∃e,P.underlying t=some (.slice e)∧P.underlying e=some (.int .u8):=by
 unfold zI at h;split at h
 · rename_i e he
   split at h
   · rename_i hu;exact⟨e,he,hu⟩
   · simp at h
 · simp at h
theorem CA:∀(es:List (List AV)) (ns:List Int) (o:Nat) {b sz:Nat},oG es=some ns→gC S w b sz o es→0<sz→ns.length=es.length∧∀j n,ns[j]?=some n→w.cell? ⟨b,o+j,none⟩=some (.int .u8 n)
 | [],ns,o,b,sz,h,_,_=>by
   simp only[oG]at h;injection h with h;subst h;simp
 | es::r,ns,o,b,sz,h,he,hs=>by
   unfold oG at h;split at h
   · rename_i e;simp at e
   · rename_i n r' e
     injection e with e1 e2;subst e1 e2;cases hr:oG r with
     | none=>simp[hr]at h
     | some ns'=>
       simp[hr]at h;subst h;simp only[gC,cJ]at he;obtain⟨h1,⟨⟨u,h2,_,h3⟩,_⟩,h4⟩:=he;simp only[rep]at h3;subst h3;have hsz:sz=1:=by simpa using h1.symm
       subst hsz;obtain⟨i1,i2⟩:=CA r ns' (o+1) hr h4 hs;refine⟨by simp[i1],fun j m hj=>?_⟩;cases j with
       | zero=>simp at hj;subst hj;simpa using h2
       | succ j=>
         rw[show o+(j+1)=o+1+j by omega];exact i2 j m (by simpa using hj)
   · simp at h
theorem II{src dst:TypeId}{x:AV}(h:tO P src dst x K):∃z,K z∧∀u,rep S w x u→sI P S H w z (convert src dst u):=by
 unfold tO at h;split at h
 · split at h
   · rename_i k k' hk hk'
     refine⟨_,h,fun u hu=>?_⟩;simp only[rep]at hu;subst hu;refine gT kS fun w'=>?_
     simp[convert,run_underlying (EZ hk),run_underlying (EZ hk'),Conv.intToInt]
   · exact h.elim
 · split at h
   · rename_i hc
     refine⟨_,h,fun u hu=>?_⟩;simp only[rep]at hu;subst hu;refine gT kS fun w'=>?_
     simp[convert,run_underlying (fB hc.1),run_underlying (fB hc.2)]
   · exact h.elim
 · rename_i es
   split at h
   · rename_i hc
     split at h
     · rename_i ns hns
       refine⟨_,h,fun u hu=>?_⟩;obtain⟨e,he,hu8⟩:=GX hc.1;have hd:=fB hc.2;simp only[rep]at hu;obtain⟨ad,n,c,rfl,h1,_,_,h2⟩:=hu;refine⟨_,kS,fun w' ha=>?_⟩;have empty:es=[]→ns=[]:=fun e=>by subst e;simp[oG]at hns;exact hns
       cases ad with
       | none=>
         have:es=[]:=by rcases h2 with h2|⟨b,o,sz,h2,_⟩;exact h2;simp at h2
         rw[run_convert_bytes_nil w' src e he hu8 n c dst hd,empty this];rfl
       | some a=>
         have hcells:(loadCells a n).run P w'=.ok (ns.map (Value.int .u8)).toArray w':=by
           rcases h2 with h2|⟨b,o,sz,h2,hb,hsz,hels⟩
           · have hn:n=0:=by rw[←h1,h2];rfl
             rw[hn,empty h2];simp[loadCells,loadCellsFrom]
           · injection h2 with h2
             subst h2;obtain⟨i1,i2⟩:=CA es ns o hns hels hsz;have hn:n=(ns.map (Value.int .u8)).length:=by rw[List.length_map,i1,h1]
             rw[hn];refine run_loadCells_list w' _ _ fun j v hj=>?_
             rw[Addr.add_lit];simp at hj;obtain⟨m,hm,rfl⟩:=hj;exact ha.cell hb (i2 j m hm)
         rw[run_convert_bytes_string w' src dst e _ n c he hu8 hd,run_bytesToString w' a n c ns hcells,foldl_push_bytes]
         congr 3
         simp[ByteArray.empty,ByteArray.emptyWithCapacity];rfl
     · exact h.elim
   · exact h.elim
 · exact h.elim
theorem B9{t:TypeId}{e sz bytes:Nat}(he:bY P t=some (e,sz,bytes)):P.underlying t=some (.slice (P.elem t))∧∀w:World,(sizeOf (P.elem t)).run P w=.ok sz w:=by
 obtain⟨i,z,hu,hi,hsz,_⟩:=gW he;have:P.elem t=e:=by unfold Program.elem;rw[hu]
 rw[this];exact⟨hu,fun w=>by simp[sizeOf,typeInfo,hi,hsz]⟩
theorem AF{t:TypeId}{x a b:AV}(h:Az P G t x a b K):
   ∃z,K z∧(gt G→∀(u v1 v2:Value),rep S w x u→rep S w a v1→rep S w b v2→sI P S H w z (Instr.sliceAt t u none (some v1) (some v2))):=by
 unfold Az at h;split at h
 · rename_i es ka a kb b
   split at h
   · rename_i e he
     refine⟨_,h.2,fun hg u v1 v2 hu h1 h2=>?_⟩;obtain⟨e1,e2⟩:=h.1 hg;simp only[rep]at hu h1 h2;subst h1 h2 e1 e2;obtain⟨ad,n,c,rfl,rfl,hc,hm,h4⟩:=hu;obtain⟨hs,hz⟩:=B9 (P:=P) (t:=t) (by rw[he]);refine⟨.slice ad es.length es.length,?_,fun w' _=>?_⟩
     · simp only[rep]
       exact⟨ad,_,rfl,rfl,by omega,h4⟩
     · rw[run_sliceAt_slice w' t _ _ _ _ hs]
       have hcc:(es.length:Int)≤(c:Int):=by exact_mod_cast hc
       rcases h4 with rfl|⟨bb,o,sz,rfl,_⟩
       · simp[Instr.slice,run_underlying hs,Instr.sliceBounds,Instr.sliceBound,asIntOf,hz]
       · simp[Instr.slice,run_underlying hs,Instr.sliceBounds,Instr.sliceBound,asIntOf,hz,hcc,Addr.add]
         intro hlt;omega
   · exact h.elim
 · exact h.elim
theorem CZ{es:List (List AV)}{ad:Option Addr}{n c sz a b:Nat}(hu:rep S w (.sl es) (.slice ad n c))(hlen:dK sz es)(hab:a≤b)(hb:b≤es.length):
   rep S w (.sl ((es.take b).drop a)) (sliced ad a b c sz):=by
 simp only[rep]at hu ⊢;obtain⟨ad',n',c',e,h1,h2,h3,h4⟩:=hu;injection e with e1 e2 e3;subst e1 e2 e3;refine⟨_,_,_,rfl,by simp;omega,by omega,by omega,?_⟩;by_cases hne:(es.take b).drop a=[]
 · exact .inl hne
 · refine .inr ?_
   rcases h4 with h4|⟨bl,o,sz',rfl,hro,hs,hels⟩
   · subst h4;simp at hne
   · have hl : 0 < es.length := by
       rcases Nat.eq_zero_or_pos es.length with h0|h0
       · have:=List.eq_nil_of_length_eq_zero h0;subst this;simp at hne
       · exact h0
     have hsz:sz'=sz:=by
       have e1:=(oU es o 0 hels hl).1;have e2:=gZ.1 hlen (es.getD 0 []) (by simp only[List.getD,List.getElem?_eq_getElem hl,Option.getD_some];exact List.getElem_mem hl);rw[←e1,e2]
     subst hsz;have hlt:a<b:=by
       rcases Nat.lt_or_ge a b with h|h
       · exact h
       · exact absurd (List.drop_eq_nil_of_le (by simp;omega)) hne
     refine⟨bl,o+a*sz',sz',?_,hro,hs,?_⟩
     · split
       · omega
       · simp[Addr.add_lit]
     · exact xE _ o a (sO es o b hels)
theorem GM{t:TypeId}{x:AV}{lo hi:Option AV}(h:kU P G t x lo hi K):
   ∃z,K z∧(gt G→∀(u:Value) (vl vh:Option Value),rep S w x u→(∀y,lo=some y→∃v,vl=some v∧rep S w y v)→(lo=none→vl=none)→(∀y,hi=some y→∃v,vh=some v∧rep S w y v)→(hi=none→vh=none) →
     sI P S H w z (Instr.sliceAt t u vl vh none)):=by
 unfold kU at h;split at h
 · rename_i es ka a kb b
   split at h
   · rename_i e sz bytes he
     refine⟨_,h.2,fun hg u vl vh hu hl _ hh _=>?_⟩;obtain⟨⟨h0,h1,h2⟩,h3⟩:=h.1 hg;obtain⟨v,rfl,hv⟩:=hl _ rfl;obtain⟨v',rfl,hv'⟩:=hh _ rfl;simp only[rep]at hv hv';subst hv hv';have hu':=hu;simp only[rep]at hu';obtain⟨ad,n,c,rfl,e1,e2,_⟩:=hu';obtain⟨hs,hz⟩:=B9 he;have:=CZ (a:=a.toNat) (b:=b.toNat) hu h3 (by omega) (by omega);refine⟨_,this,fun w' _=>?_⟩;rw[run_sliceAt_slice w' t _ _ _ _ hs,run_slice_lh w' t ad n c hs ka kb a b h0 h1 (by omega),hz];rfl
   · exact h.elim
 · rename_i es ka a
   split at h
   · rename_i e sz bytes he
     refine⟨_,h.2,fun hg u vl vh hu hl _ _ hh=>?_⟩;obtain⟨⟨h0,h1⟩,h3⟩:=h.1 hg;obtain⟨v,rfl,hv⟩:=hl _ rfl;have:=hh rfl;subst this;simp only[rep]at hv;subst hv;have hu':=hu;simp only[rep]at hu';obtain⟨ad,n,c,rfl,e1,e2,_⟩:=hu';obtain⟨hs,hz⟩:=B9 he;have:=CZ (a:=a.toNat) (b:=es.length) hu h3 (by omega) (by omega);rw[List.take_length,e1]at this;refine⟨_,this,fun w' _=>?_⟩;rw[run_sliceAt_slice w' t _ _ _ _ hs,run_slice_l w' t ad n c hs ka a h0 (by omega),hz];rfl
   · exact h.elim
 · rename_i es kb b
   split at h
   · rename_i e he
     refine⟨_,h.2,fun hg u vl vh hu _ hl hh _=>?_⟩;obtain⟨h0,h1⟩:=h.1 hg;obtain⟨v,rfl,hv⟩:=hh _ rfl;have:=hl rfl;subst this;simp only[rep]at hv;subst hv;obtain⟨hs,hz⟩:=B9 he;simp only[rep]at hu;obtain⟨ad,n,c,rfl,e1,e2,e3,e4⟩:=hu;refine⟨sliced ad 0 b.toNat c e.2.1,?_,fun w' _=>?_⟩
     · simp only[rep]
       refine⟨ad,b.toNat,c,?_,by simp;omega,by omega,e3,?_⟩
       · simp only[sliced,Nat.sub_zero]
         congr 1
         split
         · rfl
         · cases ad <;> simp[Addr.add_zero']
       · rcases e4 with e4|⟨bl,o,sz',rfl,hro,hsz,hels⟩
         · left;rw[e4];simp
         · exact .inr ⟨bl,o,sz',rfl,hro,hsz,sO es o _ hels⟩
     · rw[run_sliceAt_slice w' t _ _ _ _ hs,run_slice_h w' t ad n c hs kb b h0 (by omega),hz]
       rfl
   · exact h.elim
 · rename_i s ka a kb b
   split at h
   · rename_i hs
     refine⟨_,h.2,fun hg u vl vh hu hl _ hh _=>?_⟩;obtain⟨h0,h1,h2⟩:=h.1 hg;obtain⟨v,rfl,hv⟩:=hl _ rfl;obtain⟨v',rfl,hv'⟩:=hh _ rfl;simp only[rep]at hu hv hv';subst hu hv hv';refine gT kS fun w'=>?_
     rw[run_sliceAt_string w' t _ _ _ _ (fB hs),run_slice_string w' t s ka kb a b (fB hs) h0 h1 h2]
   · exact h.elim
 · rename_i s ka a
   split at h
   · rename_i hs
     refine⟨_,h.2,fun hg u vl vh hu hl _ _ hh=>?_⟩;obtain⟨h0,h1⟩:=h.1 hg;obtain⟨v,rfl,hv⟩:=hl _ rfl;have:=hh rfl;subst this;simp only[rep]at hu hv;subst hu hv;refine gT kS fun w'=>?_
     rw[run_sliceAt_string w' t _ _ _ _ (fB hs),run_slice_string_l w' t s (fB hs) ka a h0 h1]
   · exact h.elim
 · rename_i s kb b
   split at h
   · rename_i hs
     refine⟨_,h.2,fun hg u vl vh hu _ hl hh _=>?_⟩;obtain⟨h0,h1⟩:=h.1 hg;obtain⟨v,rfl,hv⟩:=hh _ rfl;have:=hl rfl;subst this;simp only[rep]at hu hv;subst hu hv;refine gT kS fun w'=>?_
     rw[run_sliceAt_string w' t _ _ _ _ (fB hs),run_slice_string_h w' t s (fB hs) kb b h0 h1]
   · exact h.elim
 · exact h.elim
theorem K4{k:Nat}{r:Row}(hH:vF S w H)(hk:H k=some r){a b c:Nat}{ad:Option Addr}{n:Nat}(hl:S.loc k=.slice ad n c)(hab:a≤b)(hb:b≤r.es.length):n=r.es.length∧n≤c∧rep S w (.oz k a b) (sliced ad a b c r.sz):=by
 have hR:=hH k r hk;obtain⟨xs,ho,_,_⟩:=hR.sl hl;have hcases:(ad=none∧n=0∧c=0∧r.es.length=0)∨∃g,ad=some ⟨g,0,none⟩∧n=r.es.length∧n≤c:=by
   rcases ho.2 with⟨hv,hn⟩|⟨g,cap,cur,hv,_,_,hnc,_⟩
   · rw[hl]at hv
     injection hv with h1 h2 h3;exact .inl ⟨h1,h2,h3,hn⟩
   · rw[hl]at hv
     injection hv with h1 h2 h3;subst h3;exact .inr ⟨g,h1,h2,by omega⟩
 have hn:n=r.es.length∧n≤c:=by
   rcases hcases with⟨_,h1,h2,h3⟩|⟨g,_,h1,h2⟩ <;> omega
 refine⟨hn.1,hn.2,?_⟩;simp only[rep,sliced];refine⟨hR.lt,ad,n,c,_,_,hl,rfl,hab,by omega,fun hlt=>?_,fun ha=>?_⟩
 · rcases hcases with⟨_,h1,h2,h3⟩|⟨g,h0,h1,h2⟩
   · omega
   · subst h0
     refine⟨g,rfl,?_⟩;rw[if_neg (by omega)];simp[Addr.add_lit,hR.sz]
 · subst ha
   rcases hcases with⟨h0,_,_,_⟩|⟨g,h0,_,_⟩
   · subst h0;simp
   · subst h0;simp[Addr.add_lit]
theorem oY{H':aF}{t:TypeId}{x:AV}{lo hi:Option AV}(hH:vF S w H)(h:asl P G H t x lo hi K):
   ∃z,K z∧(gt G→∀(u:Value) (vl vh:Option Value),rep S w x u→(∀y,lo=some y→∃v,vl=some v∧rep S w y v)→(lo=none→vl=none)→(∀y,hi=some y→∃v,vh=some v∧rep S w y v)→(hi=none→vh=none) →
     sI P S H' w z (Instr.sliceAt t u vl vh none)):=by
 unfold asl at h;split at h
 · rename_i k
   split at h
   · rename_i r e sz bytes hk he
     obtain⟨hs,hz⟩:=B9 he;split at h
     · rename_i ka a kb b
       refine⟨_,h.2,fun hg u vl vh hu hl _ hh _=>?_⟩;obtain⟨⟨h0,h1,h2⟩,h3⟩:=h.1 hg;obtain⟨v,rfl,hv⟩:=hl _ rfl;obtain⟨v',rfl,hv'⟩:=hh _ rfl;simp only[rep]at hv hv' hu;subst hv hv';obtain⟨_,rfl,ad,n,c,hloc⟩:=hu;obtain⟨q1,q2,q3⟩:=K4 (a:=a.toNat) (b:=b.toNat) hH hk hloc (by omega) (by omega);rw[hloc];refine⟨_,q3,fun w' _=>?_⟩;rw[run_sliceAt_slice w' t _ _ _ _ hs,run_slice_lh w' t ad n c hs ka kb a b h0 h1 (by omega),hz,h3];rfl
     · rename_i ka a
       refine⟨_,h.2,fun hg u vl vh hu hl _ _ hh=>?_⟩;obtain⟨⟨h0,h1⟩,h3⟩:=h.1 hg;obtain⟨v,rfl,hv⟩:=hl _ rfl;have:=hh rfl;subst this;simp only[rep]at hv hu;subst hv;obtain⟨_,rfl,ad,n,c,hloc⟩:=hu;obtain⟨q1,q2,q3⟩:=K4 (a:=a.toNat) (b:=r.es.length) hH hk hloc (by omega) (by omega);rw[hloc];refine⟨_,q3,fun w' _=>?_⟩;rw[run_sliceAt_slice w' t _ _ _ _ hs,run_slice_l w' t ad n c hs ka a h0 (by omega),hz,h3,q1];rfl
     · rename_i kb b
       refine⟨_,h.2,fun hg u vl vh hu _ hl hh _=>?_⟩;obtain⟨⟨h0,h1⟩,h3⟩:=h.1 hg;obtain⟨v,rfl,hv⟩:=hh _ rfl;have:=hl rfl;subst this;simp only[rep]at hv hu;subst hv;obtain⟨_,rfl,ad,n,c,hloc⟩:=hu;obtain⟨q1,q2,q3⟩:=K4 (a:=0) (b:=b.toNat) hH hk hloc (by omega) (by omega);rw[hloc];refine⟨_,q3,fun w' _=>?_⟩;rw[run_sliceAt_slice w' t _ _ _ _ hs,run_slice_h w' t ad n c hs kb b h0 (by omega),hz,h3];rfl
     · exact h.elim
   · exact h.elim
 · exact GM h
theorem FW{t:TypeId}{x i:AV}(h:sE P G t x i K):
   ∃z,K z∧(gt G→∀u v,rep S w x u→rep S w i v→sI P S H w z (Instr.index t u v)):=by
 unfold sE at h;split at h
 · rename_i s k n
   split at h
   · rename_i hs
     refine⟨_,h.2,fun hg u v hu hv=>?_⟩;obtain⟨h0,h1⟩:=h.1 hg;simp only[rep]at hu hv;subst hu hv;refine gT kS fun w'=>?_
     rw[run_index_string w' t s k n (fB hs),dif_pos ⟨h0,h1⟩];have hlt:n.toNat<s.data.size:=by have:s.size=s.data.size:=rfl;omega
     congr 4
     rw[Array.getD,dif_pos hlt];rfl
   · exact h.elim
 · rename_i cs k n
   split at h
   · rename_i m s l ha
     obtain⟨e,inf,hu,hi,rfl,_,hl⟩:=EX ha;obtain⟨z,hz,hd⟩:=AB (S:=S) (H:=H) (w:=w) hl h.2;refine⟨z,hz,fun hg u v hu' hv=>?_⟩;obtain⟨h0,h1⟩:=h.1 hg;obtain⟨cs',rfl,hd'⟩:=hd hg u hu';simp only[rep]at hv;subst hv;obtain⟨r,hr,hrun⟩:=hd';refine⟨r,hr,fun w' hw=>?_⟩;have:=hrun w' hw;simp[Instr.index,asIntOf,run_underlying hu,h0,h1,sizeOf,typeInfo,hi];simpa using this
   · exact h.elim
 · exact h.elim
def opB(n:Nat):Operand→Bool
 | .tmp t=>decide (t<n)
 | _=>true
def FR(S:Sg)(w:World)(ρ:Env)(a:Act):Prop:=∀t,t<a.tmps.size→rep S w (ρ t) (a.tmps.getD t undef)
theorem cO{ρ:Env}{a:Act}(hF:FR S w ρ a){x:Operand}(hx:opB a.tmps.size x=true):rep S w (aev ρ x) (a.eval x):=by
 cases x with
 | tmp t=>simp only[opB,decide_eq_true_eq]at hx;exact hF t hx
 | const v=>exact Af v
 | global g=>trivial
 | func f=>exact kS
theorem lW{ρ:Env}{a:Act}(hF:FR S w ρ a):∀(l:List (Nat×Operand)) {K:List (Nat×List AV)→Prop},(∀p∈l,opB a.tmps.size p.2=true)→mV G ρ l K →
   ∃ps,K ps∧(gt G→ps.length=(l.map fun p=>(p.1,a.eval p.2)).length ∧
     ∀(j i:Nat) (c:List AV),ps[j]?=some (i,c)→∃(v:Value) (l':List Value),(l.map fun p=>(p.1,a.eval p.2))[j]?=some (i,v)∧v.cells=List.toArray l'∧aS S w c l'∧∀u∈l',u.oneCell'=true)
 | [],K,_,h=>⟨[],h,fun _=>⟨rfl,by simp⟩⟩
 | (i,x)::rest,K,hb,h=>by
   simp only[mV]at h;obtain⟨y,h,hy⟩:=aL (S:=S) (w:=w) h;obtain⟨cs,h,hcs⟩:=sW (S:=S) (w:=w) h;obtain⟨ps,hK,hps⟩:=lW hF rest (fun p hp=>hb p (by simp[hp])) h;refine⟨_,hK,fun hg=>?_⟩;obtain⟨e1,e2⟩:=hps hg;refine⟨by simpa using e1,fun j k c hj=>?_⟩;cases j with
   | zero=>
     simp at hj;obtain⟨rfl,rfl⟩:=hj;obtain⟨l',f1,f2,f3⟩:=hcs _ (hy hg _ (cO hF (hb (i,x) (by simp))));exact⟨_,l',by simp,f1,f2,f3⟩
   | succ j=>simpa using e2 j k c (by simpa using hj)
theorem qY{t:TypeId}{i:TypeInfo}{zv:Value}{z:List AV}{pl:List (Nat×Nat)}(hi:P.info? t=some i)(hzv:i.zero=some zv)(h1:∀u∈zv.cells.toList,u.oneCell'=true)(hr:aS S w z zv.cells.toList)(hp:fL P t=some pl){parts:List (Nat×List AV)}{vs:List (Nat×Value)}{cs:List AV}
   (hf:oK pl z parts=some cs) (hl:parts.length=vs.length)
   (hv:∀(j i:Nat) (c:List AV),parts[j]?=some (i,c)→∃(v:Value) (l:List Value),vs[j]?=some (i,v)∧v.cells=List.toArray l∧aS S w c l∧∀u∈l,u.oneCell'=true):
   ∃A',P.built t vs=some A'∧aS S w cs A'.toList∧∀v∈A'.toList,v.oneCell'=true:=by
 unfold fL at hp;split at hp
 · rename_i fs hu
   obtain⟨A',f1,f2,f3⟩:=uJ (place:=fun i=>pl.toArray[i]?) (fun i on h=>by simpa using h) parts vs _ zv.cells cs hf hr h1 hl hv;refine⟨A',?_,f2,f3⟩;unfold Program.built;simp only[hi,hu,hzv,hp];exact f1
 · rename_i n e hu
   cases hie:P.info? e with
   | none=>simp[hie]at hp
   | some ie=>
     simp[hie]at hp;obtain⟨A',f1,f2,f3⟩:=uJ (place:=fun i=>some (i*ie.size,ie.size)) (fun i on h=>by
       rw[←hp]at h;simp only[List.getElem?_map,Option.map_eq_some_iff]at h;obtain⟨j,h,rfl⟩:=h;have hlt:i<n:=by
         rcases Nat.lt_or_ge i n with h'|h'
         · exact h'
         · simp[List.getElem?_eq_none,h']at h
       simp[hlt]at h;rw[h]) parts vs _ zv.cells cs hf hr h1 hl hv
     refine⟨A',?_,f2,f3⟩;unfold Program.built;simp only[hi,hu,hzv,hie];exact f1
 · simp at hp
theorem FV{t:TypeId}{z:List AV}{pl:List (Nat×Nat)}(hz:eH P t=some z)(hp:fL P t=some pl){parts:List (Nat×List AV)}{vs:List (Nat×Value)}{cs:List AV}
   (hf:oK pl z parts=some cs) (hl:parts.length=vs.length)
   (hv:∀(j i:Nat) (c:List AV),parts[j]?=some (i,c)→∃(v:Value) (l:List Value),vs[j]?=some (i,v)∧v.cells=List.toArray l∧aS S w c l∧∀u∈l,u.oneCell'=true):
   ∃A',P.built t vs=some A'∧aS S w cs A'.toList∧∀v∈A'.toList,v.oneCell'=true:=by
 obtain⟨i,zv,hi,hzv,rfl,hsz,_,h1⟩:=lE hz;exact qY hi hzv h1 (kG zv.cells.toList) hp hf hl hv
end
end Go.Aw
end
section
namespace Go.Aw
open Go.RowKit
section
variable{P:Program}{S:Sg}{H:aF}{w:World}{G:Option Bool}{K:AV→Prop}
theorem Pd{a b:ByteArray}(h:a.toList=b.toList):a=b:=by
 rw[ByteArray.toList_eq,ByteArray.toList_eq]at h;exact ByteArray.ext (Array.toList_inj.1 h)
theorem NR{t:TypeId}{kt:TypeId×TypeId}(h:Ud P t=some kt):P.underlying t=some (.map kt.1 kt.2):=by
 unfold Ud at h;split at h
 · rename_i k e he
   injection h with h;subst h;exact he
 · simp at h
theorem EQ{t:TypeId}{z:AV}(h:Ml P t=some z):∃v,(∀w':World,(zeroValue t).run P w'=.ok v w')∧∀S w,rep S w z v:=by
 unfold Ml at h;split at h
 · rename_i i hi
   split at h
   · rename_i cs hz
     split at h
     · rename_i hall
       injection h with h;subst h;refine⟨.agg cs,fun w'=>by simp[zeroValue,typeInfo,hi,hz],fun S w=>?_⟩;simp only[rep];refine⟨cs.toList,by simp,kG _,fun u hu=>List.all_eq_true.1 hall u hu⟩
     · simp at h
   · rename_i v _ hz
     split at h
     · injection h with h
       subst h;exact⟨v,fun w'=>by simp[zeroValue,typeInfo,hi,hz],fun S w=>Af _⟩
     · simp at h
   · simp at h
 · simp at h
theorem DX{kt:TypeId}{x y:AV}{b:Bool}(h:Ia P kt x y=some b){u v:Value}(hu:rep S w x u)(hv:rep S w y v):
   ∃d,P.underlying kt=some d∧Instr.sameNow d u v=some b∧(b=true→u=v∧∀n,Instr.sameBits (n+1) v u=true):=by
 unfold Ia at h;split at h
 · rename_i a c
   simp only[rep]at hu hv;subst hu hv;split at h
   · rename_i k hk
     unfold uZ at h;split at h
     · rename_i k1 a1 k2 b1 e1 e2
       cases e1;cases e2;split at h
       · rename_i hkk
         subst hkk;rcases jZ hk with⟨_,k',hk'⟩|⟨h0,_⟩|⟨h0,_⟩
         · injection h with h
           subst h;refine⟨_,hk',by simp[Instr.sameNow],fun hb=>?_⟩;have:a1=b1:=by simpa using hb
           subst this;exact⟨rfl,fun n=>by simp[Instr.sameBits]⟩
         · simp at h0
         · simp at h0
       · simp at h
     · rename_i a1 b1 e1 e2
       cases e1;cases e2;rcases jZ hk with⟨h0,_⟩|⟨_,hk'⟩|⟨h0,_⟩
       · simp at h0
       · injection h with h
         have hb:(a1 == b1)=b:=by rw[beq_toListBytes];exact h
         refine⟨_,hk',by simp[Instr.sameNow,hb],fun hb'=>?_⟩;have:a1=b1:=Pd (by rw[hb']at h;simpa using h);subst this;exact⟨rfl,fun n=>by simp[Instr.sameBits,beq_toListBytes]⟩
       · simp at h0
     · rename_i a1 b1 e1 e2
       cases e1;cases e2;rcases jZ hk with⟨h0,_⟩|⟨h0,_⟩|⟨_,hk'⟩
       · simp at h0
       · simp at h0
       · injection h with h
         subst h;refine⟨_,hk',by simp[Instr.sameNow],fun hb=>?_⟩;have:a1=b1:=by simpa using hb
         subst this;exact⟨rfl,fun n=>by simp[Instr.sameBits]⟩
     · simp at h
   · simp at h
 · simp at h
theorem DU{kt:TypeId}{x:AV}{u:Value}{d:TypeDesc}(hd:P.underlying kt=some d)(hu:rep S w x u):∀(es:List (List AV)) (ms:List MapEntry) (i:Nat) {oi:Option Nat},jN S w i es ms→DV (Ia P kt x) es i=some oi →
   (oi=none→Instr.findNow d u ms i=some none)∧∀j,oi=some j→∃m cs,i≤j∧ms[j-i]?=some m∧es[j-i]?=some cs∧Instr.findNow d u ms i=some (some (j,m.val))∧m.key=u∧(∀n,Instr.sameBits (n+1) m.key u=true)∧m.born=j∧aS S w cs [m.key,m.val]
 | [],ms,i,oi,he,hf=>by
   simp only[jN]at he;subst he;simp only[DV]at hf;injection hf with hf;subst hf;exact⟨fun _=>rfl,fun j h=>by simp at h⟩
 | cs::r,ms,i,oi,he,hf=>by
   simp only[jN]at he;obtain⟨m,t,rfl,hb,hr,ht⟩:=he;unfold DV at hf;have hk:rep S w (cs.getD 0 .any) m.key:=by
     cases cs with
     | nil=>simp[aS]at hr
     | cons c cs=>
       simp only[aS]at hr;obtain⟨_,_,e,h1,_⟩:=hr;injection e with e1 e2;subst e1;simpa using h1
   split at hf
   · rename_i heq
     injection hf with hf;subst hf;obtain⟨d',hd',h1,h2⟩:=DX heq hu hk;rw[hd]at hd';injection hd' with hd';subst hd';refine⟨fun h=>by simp at h,fun j hj=>?_⟩;injection hj with hj;subst hj;exact⟨m,cs,Nat.le_refl _,by simp,by simp,by simp[Instr.findNow,h1],(h2 rfl).1.symm,(h2 rfl).2,hb,hr⟩
   · rename_i heq
     obtain⟨d',hd',h1,h2⟩:=DX heq hu hk;rw[hd]at hd';injection hd' with hd';subst hd';obtain⟨g1,g2⟩:=DU hd hu r t (i+1) ht hf;refine⟨fun h=>by simp[Instr.findNow,h1,g1 h],fun j hj=>?_⟩;obtain⟨m',cs',q1,q2,q3,q4,q5⟩:=g2 j hj;have e:j-i=(j-(i+1))+1:=by omega
     exact⟨m',cs',by omega,by rw[e];simpa using q2,by rw[e];simpa using q3,by simp[Instr.findNow,h1,q4],q5⟩
   · simp at hf
theorem uY:∀(i:Nat) (es:List (List AV)) (ms:List MapEntry),jN S w i es ms→ms.length=es.length
 | _,[],ms,h=>by simp only[jN]at h;simp[h]
 | i,cs::r,ms,h=>by
   simp only[jN]at h;obtain⟨m,t,rfl,_,_,h3⟩:=h;simp[uY (i+1) r t h3]
theorem Jd:∀(i:Nat) (es:List (List AV)) (ms:List MapEntry) (j:Nat),jN S w i es ms→j<es.length→∃m,ms[j]?=some m∧m.born=i+j∧aS S w (es.getD j []) [m.key,m.val]
 | _,[],_,_,_,h=>by simp at h
 | i,cs::r,ms,0,h,_=>by
   simp only[jN]at h;obtain⟨m,t,rfl,h1,h2,_⟩:=h;exact⟨m,by simp,by simpa using h1,by simpa using h2⟩
 | i,cs::r,ms,j+1,h,hj=>by
   simp only[jN]at h;obtain⟨m,t,rfl,_,_,h3⟩:=h;obtain⟨m',g1,g2,g3⟩:=Jd (i+1) r t j h3 (by simpa using hj);exact⟨m',by simpa using g1,by omega,by simpa using g3⟩
theorem zC:∀(i:Nat) (es:List (List AV)) (ms:List MapEntry) (j:Nat) {cs:List AV} {m:MapEntry},jN S w i es ms→m.born=i+j→aS S w cs [m.key,m.val]→jN S w i (es.set j cs) (ms.set j m)
 | _,[],ms,_,_,_,h,_,_=>by simp only[jN]at h;subst h;simp[jN]
 | i,c::r,ms,0,cs,m,h,hb,hr=>by
   simp only[jN]at h;obtain⟨m0,t,rfl,_,_,h3⟩:=h;simp only[List.set_cons_zero,jN];exact⟨m,t,rfl,by simpa using hb,hr,h3⟩
 | i,c::r,ms,j+1,cs,m,h,hb,hr=>by
   simp only[jN]at h;obtain⟨m0,t,rfl,h1,h2,h3⟩:=h;simp only[List.set_cons_succ,jN];exact⟨m0,t.set j m,rfl,h1,h2,zC (i+1) r t j h3 (by omega) hr⟩
theorem yT:∀(i:Nat) (es:List (List AV)) (ms:List MapEntry) {cs:List AV} {m:MapEntry},jN S w i es ms→m.born=i+es.length→aS S w cs [m.key,m.val]→jN S w i (es++[cs]) (ms++[m])
 | i,[],ms,cs,m,h,hb,hr=>by
   simp only[jN]at h;subst h;simp only[List.nil_append,jN];exact⟨m,[],rfl,by simpa using hb,hr,rfl⟩
 | i,c::r,ms,cs,m,h,hb,hr=>by
   simp only[jN]at h;obtain⟨m0,t,rfl,h1,h2,h3⟩:=h;simp only[List.cons_append,jN];exact⟨m0,t++[m],rfl,h1,h2,yT (i+1) r t h3 (by simp at hb;omega) hr⟩
theorem uQ{kt:TypeId}{x:AV}(h:xS P kt x=true){u:Value}(hu:rep S w x u)(e:Bool)(n:Nat)(w':World):(∃d,P.underlying kt=some d)∧(Instr.checkKey e (n+1) kt u).run P w'=.ok () w':=by
 unfold xS at h;split at h
 all_goals first|(simp at h;done)|skip
 all_goals
   simp only[beq_iff_eq]at h;simp only[rep]at hu;subst hu;rcases jZ h with⟨h0,k',hk'⟩|⟨h0,hk'⟩|⟨h0,hk'⟩ <;> first
     | (simp at h0;done)
     | exact⟨⟨_,hk'⟩,by unfold Instr.checkKey;simp only[Sem.run_bind,run_underlying hk',Result.andThen];rfl⟩
theorem G1{t:TypeId}{kt:TypeId×TypeId}{x:AV}{r:Row}{k:Nat}{u:Value}{oi:Option Nat}(ht:Ud P t=some kt)(hp:xS P kt.1 x=true)(hf:DV (Ia P kt.1 x) r.es 0=some oi)(hm:Rz S w k r)(hu:rep S w x u):
   ∃g ms,S.loc k=.map (some g)∧w.heap[g]?=some (.map (List.toArray ms) ms.length)∧jN S w 0 r.es ms∧P.underlying t=some (.map kt.1 kt.2)∧(∀e (w':World),(Instr.checkKey e 10000 kt.1 u).run P w'=.ok () w') ∧
     ((oi=none∧∀w':World,(Instr.findKey kt.1 u ms).run P w'=.ok none w') ∨
     ∃j m cs,oi=some j∧ms[j]?=some m∧r.es[j]?=some cs∧(∀w':World,(Instr.findKey kt.1 u ms).run P w'=.ok (some (j,m.val)) w')∧m.key=u∧(∀n,Instr.sameBits (n+1) m.key u=true)∧m.born=j∧aS S w cs [m.key,m.val]):=by
 obtain⟨g,ms,h1,h2,h3,_⟩:=hm;obtain⟨⟨d,hd⟩,_⟩:=uQ hp hu true 0 w;refine⟨g,ms,h1,h2,h3,NR ht,fun e w'=>(uQ hp hu e 9999 w').2,?_⟩;obtain⟨f1,f2⟩:=DU hd hu r.es ms 0 h3 hf;cases oi with
 | none=>exact .inl ⟨rfl,fun w'=>by simp[Instr.findKey,run_underlying hd,f1 rfl]⟩
 | some j=>
   obtain⟨m,cs,_,q2,q3,q4,q5,q6,q7,q8⟩:=f2 j rfl;exact .inr ⟨j,m,cs,rfl,by simpa using q2,by simpa using q3,fun w'=>by simp[Instr.findKey,run_underlying hd,q4],q5,q6,q7,q8⟩
theorem C6{cs:List AV}{a b:Value}(h:aS S w cs [a,b]):∃x y,cs=[x,y]∧rep S w x a∧rep S w y b:=by
 cases cs with
 | nil=>simp[aS]at h
 | cons x cs=>
   simp only[aS]at h;obtain⟨u,t,e,h1,h2⟩:=h;injection e with e1 e2;subst e1 e2;cases cs with
   | nil=>simp[aS]at h2
   | cons y cs=>
     simp only[aS]at h2;obtain⟨u,t,e,h3,h4⟩:=h2;injection e with e1 e2;subst e1 e2;cases cs with
     | nil=>exact⟨x,y,rfl,h1,h3⟩
     | cons _ _=>simp[aS]at h4
theorem Dq{t:TypeId}{x key:AV}{ok:Bool}(hH:vF S w H)(h:vM P H t x key ok K):
   ∃z,K z∧(gt G→∀u v,rep S w x u→rep S w key v→sI P S H w z (Instr.lookup t u v ok)):=by
 unfold vM Es at h;split at h
 · rename_i j
   split at h
   · rename_i r kt hj ht
     split at h
     · rename_i oi hf
       obtain⟨hp,h⟩:=h;split at h
       · rename_i z hz
         refine⟨_,h,fun _ u v hu hv=>?_⟩;simp only[rep]at hu;obtain⟨_,rfl,g0,hl0⟩:=hu;obtain⟨g,ms,h1,h2,h3,h4,h5,h6⟩:=G1 ht hp hf ((hH j r hj).mp hl0) hv;obtain⟨zv,hzr,hzz⟩:=EQ hz;have hget:∀w',Agree S H w w'→w'.heap[g]?=some (.map (List.toArray ms) ms.length):=fun w' ha=>(ha.own j r hj g (by rw[h1];rfl)).trans h2
         rcases h6 with⟨rfl,h6⟩|⟨i,m,cs,rfl,q1,q2,q3,q4,q5,q6,q7⟩
         · cases ok with
           | false=>
             refine⟨zv,hzz S w,fun w' ha=>?_⟩;simp[Instr.lookup,run_underlying h4,h1,MapKept.run_getObj_map (hget w' ha),h5,h6,hzr,OM]
           | true=>
             refine⟨.tuple #[zv,.bool false],?_,fun w' ha=>?_⟩
             · simp only[OM,if_true,rep,aS]
               exact⟨[zv,.bool false],by simp,_,_,rfl,hzz S w,_,_,rfl,rfl,rfl⟩
             · simp[Instr.lookup,run_underlying h4,h1,MapKept.run_getObj_map (hget w' ha),h5,h6,hzr,OM]
         · obtain⟨xk,xv,rfl,r1,r2⟩:=C6 q7
           have e1:(r.es.getD i []).getD 1 .any=xv:=by simp[List.getD,q2]
           cases ok with
           | false=>
             refine⟨m.val,by simp only[OM,e1];exact r2,fun w' ha=>?_⟩;simp[Instr.lookup,run_underlying h4,h1,MapKept.run_getObj_map (hget w' ha),h5,q3]
           | true=>
             refine⟨.tuple #[m.val,.bool true],?_,fun w' ha=>?_⟩
             · simp only[OM,if_true,e1,rep,aS]
               exact⟨[m.val,.bool true],by simp,_,_,rfl,r2,_,_,rfl,rfl,rfl⟩
             · simp[Instr.lookup,run_underlying h4,h1,MapKept.run_getObj_map (hget w' ha),h5,q3]
       · exact h.elim
     · exact h.elim
   · exact h.elim
 · exact h.elim
end
end Go.Aw
end
