import Derived.MapKept
import Derived.Lib.ItoaMem
import Derived.Lib.TrailingZeros
import Derived.ArgAppend
import Derived.Lib.AppendStr
import Derived.Test.YthbiheckeoknlaaGreatDoorPp01
set_option linter.unusedSimpArgs false
set_option linter.unusedVariables false
set_option linter.defProp false
set_option maxRecDepth 100000
section
namespace Go.Aw
open Go.RowKit
section
variable{P:Program}{S:Sg}{H:aC}{w:World}{G:Option Bool}{K:AV→Prop}
theorem fJ{n:Nat}:∀{l:List (List AV)},dF n l↔∀cs∈l,cs.length=n
 | []=>by simp[dF]
 | x::r=>by simp[dF,fJ (l:=r)]
theorem jA{α:Type}{n:Nat}{f:α→List AV}(h:∀x,(f x).length=n)(l:List α):dF n (l.map f):=fJ.2 fun cs hc=>by obtain⟨x,_,rfl⟩:=List.mem_map.1 hc;exact h x
theorem OQ{b:Bool}{u:Value}(h:rep S w (.v (.bool b)) u):u=.bool b:=by simpa only[rep]using h
theorem oM{c:Bool}{x y:AV}{u v:Value}(hx:c=true→rep S w x u)(hy:c=false→rep S w y v):rep S w (rO c x y) (if c then u else v):=by
 unfold rO;split
 ·cases c
  ·have:=hy rfl;simp only[rep]at this ⊢;subst this;simp
  ·have:=hx rfl;simp only[rep]at this ⊢;subst this;simp
 ·cases c
  ·have:=hy rfl;simp only[rep]at this ⊢;subst this;simp
  ·have:=hx rfl;simp only[rep]at this ⊢;subst this;simp
 ·cases c
  ·have:=hy rfl;simp only[rep]at this ⊢;subst this;simp
  ·have:=hx rfl;simp only[rep]at this ⊢;subst this;simp
 ·cases c
  ·simpa using hy rfl
  ·simpa using hx rfl
theorem GH{c:Bool}{x y:AV}(h:uP G c x y K):
  ∃z,K z∧(gt G→∀u v,rep S w x u→rep S w y v→rep S w z (if c then u else v)):=by
 unfold uP at h;split at h
 ·refine⟨_,h.2.2,fun hg u v hu hv=>oM (fun hc=>?_) (fun hc=>?_)⟩
  ·simp only[rep]at hu;exact hu.1 (h.1 hg hc)
  ·simp only[rep]at hv;exact hv.1 (h.2.1 hg hc)
 ·refine⟨_,h.2,fun hg u v hu hv=>oM (fun hc=>?_) (fun _=>hv)⟩;simp only[rep]at hu;exact hu.1 (h.1 hg hc)
 ·refine⟨_,h.2,fun hg u v hu hv=>oM (fun _=>hu) (fun hc=>?_)⟩;simp only[rep]at hv;exact hv.1 (h.1 hg hc)
 ·exact⟨_,h,fun _ u v hu hv=>oM (fun _=>hu) (fun _=>hv)⟩
theorem CB{v:Value}(h:v.oneCell'=true):v.cells=#[v]:=by cases v <;> first|rfl|simp[Value.oneCell']at h
theorem qE{x:AV}{K:List AV→Prop}(h:iP x K):∃cs,K cs∧∀u,rep S w x u→∃l:List Value,u.cells=l.toArray∧aV S w cs l∧(∀v∈l,v.oneCell'=true):=by
 have one:∀(x:AV) (u:Value),rep S w x u→u.oneCell'=true→∃l:List Value,u.cells=l.toArray∧aV S w [x] l∧(∀v∈l,v.oneCell'=true):=fun x u hu h1=>⟨[u],CB h1,by simp only[aV];exact⟨u,[],rfl,hu,rfl⟩,by simpa using h1⟩
 unfold iP at h;split at h
 ·refine⟨_,h,fun u hu=>?_⟩;simp only[rep]at hu;obtain⟨l,rfl,h1,h2⟩:=hu;exact⟨l,rfl,h1,h2⟩
 ·refine⟨_,h.2,fun u hu=>one _ u hu ?_⟩;simp only[rep]at hu;subst hu;exact h.1
 ·refine⟨_,h,fun u hu=>one _ u hu ?_⟩;simp only[rep]at hu;obtain⟨_,_,_,rfl,_⟩:=hu;rfl
 ·refine⟨_,h,fun u hu=>one _ u hu ?_⟩;simp only[rep]at hu;obtain⟨_,_,rfl,_⟩:=hu;rfl
 ·refine⟨_,h,fun u hu=>one _ u hu ?_⟩;simp only[rep]at hu;obtain⟨_,_,_,_,_,rfl⟩:=hu;rfl
 ·refine⟨_,h,fun u hu=>one _ u hu ?_⟩;simp only[rep]at hu;obtain⟨_,_,_,_,_,rfl⟩:=hu;rfl
 ·refine⟨_,h,fun u hu=>one _ u hu ?_⟩;simp only[rep]at hu;obtain⟨_,_,_,_,_,_,_,rfl,_⟩:=hu;rfl
 ·refine⟨_,h,fun u hu=>one _ u hu ?_⟩;simp only[rep]at hu;obtain⟨_,_,_,rfl⟩:=hu;rfl
 ·exact h.elim
theorem yX(v:Value):rep S w (lU v) v:=by
 unfold lU;split
 ·unfold rep;exact⟨none,0,0,rfl,rfl,Nat.le_refl _,Nat.zero_le _,.inl rfl⟩
 ·exact gW
theorem jD:∀(l:List Value),aV S w (l.map lU) l
 | []=>by simp[aV]
 | v::r=>by simp only[List.map_cons,aV];exact⟨v,r,rfl,yX v,jD r⟩
theorem yJ:∀(l:List Value) (i:Nat) (A:Array Value) (o:Nat),o+i+l.length≤A.size →
  ((l.zipIdx i).foldl (fun cs (p:Value×Nat)=>cs.setIfInBounds (o+p.2) p.1) A).toList=A.toList.take (o+i)++l++A.toList.drop (o+i+l.length)
 | [],i,A,o,h=>by simp
 | v::r,i,A,o,h=>by
  simp only[List.zipIdx_cons,List.foldl_cons,List.length_cons]at h ⊢;rw[yJ r (i+1) _ o (by simp;omega)];have e1:(A.setIfInBounds (o+i) v).toList=A.toList.set (o+i) v:=by simp
  rw[e1,show o+(i+1)=o+i+1 by omega,List.take_set,List.drop_set_of_lt (by omega)];have hlt:o+i<A.toList.length:=by simp;omega
  have e2:(List.take (o+i+1) A.toList).set (o+i) v=List.take (o+i) A.toList++[v]:=by
   rw[List.take_succ_eq_append_getElem hlt,List.set_append_right _ _ (by simp;omega)];have:(List.take (o+i) A.toList).length=o+i:=by rw[List.length_take];omega
   rw[this,Nat.sub_self];rfl
  rw[e2];simp only[List.append_assoc,List.singleton_append,List.cons_append,List.nil_append];rw[show o+i+1+r.length=o+i+(r.length+1)by omega]
theorem tF{places:List (Nat×Nat)}{place:Nat→Option (Nat×Nat)}(hpl:∀i on,places[i]?=some on→place i=some on):∀(parts:List (Nat×List AV)) (vs:List (Nat×Value)) (cs:List AV) (A:Array Value) (cs':List AV),
  mO places cs parts=some cs'→aV S w cs A.toList→(∀v∈A.toList,v.oneCell'=true) →
  parts.length=vs.length→(∀(j i:Nat) (c:List AV),parts[j]?=some (i,c)→∃(v:Value) (l:List Value),vs[j]?=some (i,v)∧v.cells=List.toArray l∧aV S w c l∧∀u∈l,u.oneCell'=true) →
  ∃A',Instr.fill place A vs=some A'∧aV S w cs' A'.toList∧(∀v∈A'.toList,v.oneCell'=true)
 | [],vs,cs,A,cs',hf,hr,h1,hl,_=>by simp only[mO]at hf;injection hf with hf;subst hf;have:vs=[]:=List.eq_nil_of_length_eq_zero (by simpa using hl.symm);subst this;exact⟨A,rfl,hr,h1⟩
 | (i,c)::rest,vs,cs,A,cs',hf,hr,h1,hl,hv=>by
  obtain⟨v,l,e1,e2,e3,e4⟩:=hv 0 i c (by simp);cases vs with
  | nil=>simp at e1
  | cons q vs=>
   simp at e1;subst e1;simp only[mO]at hf;cases hp:places[i]? with
   | none=>simp[hp]at hf
   | some on=>
    obtain⟨off,n⟩:=on;simp only[hp]at hf;split at hf
    ·rename_i hc;have hll:l.length=n:=by rw[←hc.1];exact eL _ _ e3
     have hA:A.toList.length=cs.length:=eL _ _ hr;have hA':A.size=cs.length:=by simpa using hA
     have hz:=yJ l 0 A off (by rw[hll,hA'];have:=hc.2;omega);simp only[Nat.add_zero]at hz;have hrep:aV S w (cs.take off++c++cs.drop (off+n)) (A.toList.take off++l++A.toList.drop (off+l.length)):=by rw[hll];exact dA _ _ _ _ (dA _ _ _ _ (nC _ _ _ hr) e3) (nG _ _ _ hr)
     have h1':∀u∈A.toList.take off++l++A.toList.drop (off+l.length),u.oneCell'=true:=by
      intro u hu;simp only[List.mem_append]at hu;rcases hu with(hu|hu)|hu
      ·exact h1 u (List.mem_of_mem_take hu)
      ·exact e4 u hu
      ·exact h1 u (List.mem_of_mem_drop hu)
     rw[←hz]at hrep h1';obtain⟨A',f1,f2,f3⟩:=tF hpl rest vs _ _ cs' hf hrep h1' (by simpa using hl) (fun j i c hj=>by simpa using hv (j+1) i c (by simpa using hj));refine⟨A',?_,f2,f3⟩;simp only[Instr.fill,hpl i _ hp,e2,List.size_toArray,hll];rw[if_neg (by have:=hc.2;simp[hA'];omega)];rw[←f1]
     congr 1
     rw[←Array.foldl_toList];simp
    ·simp at hf
theorem jZ{t:TypeId}{z:List AV}(h:eC P t=some z):∃i v,P.info? t=some i∧i.zero=some v∧z=v.cells.toList.map lU∧v.cells.size=i.size∧i.size≠0∧(∀u∈v.cells.toList,u.oneCell'=true):=by
 unfold eC at h;cases hi:P.info? t with
 | none=>simp[hi]at h
 | some i=>
  cases hz:i.zero with
  | none=>simp[hi,hz]at h
  | some v=>
   simp only[hi,hz]at h;split at h
   ·rename_i hc;injection h with h;exact⟨i,v,rfl,hz,h.symm,hc.1,hc.2.1,fun u hu=>List.all_eq_true.1 hc.2.2 u hu⟩
   ·simp at h
theorem aI{x:AV}{k:AV→Prop}(h:bJ G x k):∃y,k y∧(gt G→∀u,rep S w x u→rep S w y u):=by
 unfold bJ at h;split at h
 ·refine⟨_,h.2,fun hg u hu=>?_⟩;simp only[rep]at hu;refine hu.1 ?_;have:=h.1;cases G with
  | none=>exact this
  | some b=>exact this hg
 ·exact⟨_,h,fun _ u hu=>hu⟩
theorem MA{op:UnOp}{x:AV}(h:aun op x K):∃z,K z∧∀u,rep S w x u→oW P S H w z (Op.unary op u):=by
 unfold aun at h;split at h
 ·refine⟨_,h,fun u hu=>?_⟩;simp only[rep]at hu;subst hu;exact fF gW fun w'=>by simp[Op.unary]
 ·refine⟨_,h,fun u hu=>?_⟩;simp only[rep]at hu;subst hu;exact fF gW fun w'=>by simp[Op.unary,Op.intArith]
 ·exact h.elim
theorem xU{t:TypeId}{k:IntKind}(h:yN P t=some k):P.underlying t=some (.int k):=by
 unfold yN at h;split at h
 ·rename_i hk;injection h with h;subst h;exact hk
 ·simp at h
theorem HB{t:TypeId}(h:xM P t=true):∃e,P.underlying t=some (.slice e)∧P.underlying e=some (.int .u8):=by
 unfold xM at h;split at h
 ·rename_i e he;split at h
  ·rename_i hu;exact⟨e,he,hu⟩
  ·simp at h
 ·simp at h
theorem A7:∀(es:List (List AV)) (ns:List Int) (o:Nat) {b sz:Nat},mK es=some ns→fV S w b sz o es→0<sz→ns.length=es.length∧∀j n,ns[j]?=some n→w.cell? ⟨b,o+j,none⟩=some (.int .u8 n)
 | [],ns,o,b,sz,h,_,_=>by simp only[mK]at h;injection h with h;subst h;simp
 | es::r,ns,o,b,sz,h,he,hs=>by
  unfold mK at h;split at h
  ·rename_i e;simp at e
  ·rename_i n r' e;injection e with e1 e2;subst e1 e2;cases hr:mK r with
   | none=>simp[hr]at h
   | some ns'=>
    simp[hr]at h;subst h;simp only[fV,cR]at he;obtain⟨h1,⟨⟨u,h2,_,h3⟩,_⟩,h4⟩:=he;simp only[rep]at h3;subst h3;have hsz:sz=1:=by simpa using h1.symm
    subst hsz;obtain⟨i1,i2⟩:=A7 r ns' (o+1) hr h4 hs;refine⟨by simp[i1],fun j m hj=>?_⟩;cases j with
    | zero=>simp at hj;subst hj;simpa using h2
    | succ j=>rw[show o+(j+1)=o+1+j by omega];exact i2 j m (by simpa using hj)
  ·simp at h
theorem Ii{src dst:TypeId}{x:AV}(h:rN P src dst x K):∃z,K z∧∀u,rep S w x u→oW P S H w z (convert src dst u):=by
 unfold rN at h;split at h
 ·rename_i kd n;split at h
  ·rename_i k k' hk hk';refine⟨_,h,fun u hu=>?_⟩;simp only[rep]at hu;subst hu;refine fF gW fun w'=>?_
   simp[convert,run_underlying (xU hk),run_underlying (xU hk'),Conv.intToInt]
  ·rename_i k' hk hk';obtain⟨hs,hn,h⟩:=h;refine⟨_,h,fun u hu=>?_⟩;simp only[rep]at hu;subst hu;refine fF gW fun w'=>?_
   have e:Utf8.encode n=strOfNums [n]:=by
    unfold Utf8.encode;have hv:Utf8.valid n=true:=by unfold Utf8.valid;simp;omega
    rw[hv];simp only[if_true];rw[if_pos (by omega)];rfl
   simp[convert,run_underlying (xU hk'),run_underlying (dZ hs),Conv.intToString,e]
  ·exact h.elim
 ·split at h
  ·rename_i hc;refine⟨_,h,fun u hu=>?_⟩;simp only[rep]at hu;subst hu;refine fF gW fun w'=>?_
   simp[convert,run_underlying (dZ hc.1),run_underlying (dZ hc.2)]
  ·exact h.elim
 ·rename_i es;split at h
  ·rename_i hc;split at h
   ·rename_i ns hns;refine⟨_,h,fun u hu=>?_⟩;obtain⟨e,he,hu8⟩:=HB hc.1;have hd:=dZ hc.2;simp only[rep]at hu;obtain⟨ad,n,c,rfl,h1,_,_,h2⟩:=hu;refine⟨_,gW,fun w' ha=>?_⟩;have empty:es=[]→ns=[]:=fun e=>by subst e;simp[mK]at hns;exact hns
    cases ad with
    | none=>
     have:es=[]:=by rcases h2 with h2|⟨b,o,sz,h2,_⟩;exact h2;simp at h2
     rw[run_convert_bytes_nil w' src e he hu8 n c dst hd,empty this];rfl
    | some a=>
     have hcells:(loadCells a n).run P w'=.ok (ns.map (Value.int .u8)).toArray w':=by
      rcases h2 with h2|⟨b,o,sz,h2,hb,hsz,hels⟩
      ·have hn:n=0:=by rw[←h1,h2];rfl
       rw[hn,empty h2];simp[loadCells,loadCellsFrom]
      ·injection h2 with h2;subst h2;obtain⟨i1,i2⟩:=A7 es ns o hns hels hsz;have hn:n=(ns.map (Value.int .u8)).length:=by rw[List.length_map,i1,h1]
       rw[hn];refine run_loadCells_list w' _ _ fun j v hj=>?_
       rw[Addr.add_lit];simp at hj;obtain⟨m,hm,rfl⟩:=hj;exact ha.cell hb (i2 j m hm)
     rw[run_convert_bytes_string w' src dst e _ n c he hu8 hd,run_bytesToString w' a n c ns hcells,foldl_push_bytes]
     congr 3
     simp[ByteArray.empty,ByteArray.emptyWithCapacity];rfl
   ·exact h.elim
  ·exact h.elim
 ·exact h.elim
theorem vE{t:TypeId}{e sz bytes:Nat}(he:cM P t=some (e,sz,bytes)):P.underlying t=some (.slice (P.elem t))∧∀w:World,(sizeOf (P.elem t)).run P w=.ok sz w:=by
 obtain⟨i,z,hu,hi,hsz,_⟩:=eG he;have:P.elem t=e:=by unfold Program.elem;rw[hu]
 rw[this];exact⟨hu,fun w=>by simp[sizeOf,typeInfo,hi,hsz]⟩
theorem zC{t:TypeId}{x a b:AV}(h:Dj P G t x a b K):
  ∃z,K z∧(gt G→∀(u v1 v2:Value),rep S w x u→rep S w a v1→rep S w b v2→oW P S H w z (Instr.sliceAt t u none (some v1) (some v2))):=by
 unfold Dj at h;split at h
 ·rename_i es ka a kb b;split at h
  ·rename_i e he;refine⟨_,h.2,fun hg u v1 v2 hu h1 h2=>?_⟩;obtain⟨e1,e2⟩:=h.1 hg;simp only[rep]at hu h1 h2;subst h1 h2 e1 e2;obtain⟨ad,n,c,rfl,rfl,hc,hm,h4⟩:=hu;obtain⟨hs,hz⟩:=vE (P:=P) (t:=t) (by rw[he]);refine⟨.slice ad es.length es.length,?_,fun w' _=>?_⟩
   ·simp only[rep];exact⟨ad,_,rfl,rfl,by omega,h4⟩
   ·rw[run_sliceAt_slice w' t _ _ _ _ hs];have hcc:(es.length:Int)≤(c:Int):=by exact_mod_cast hc
    rcases h4 with rfl|⟨bb,o,sz,rfl,_⟩
    ·simp[Instr.slice,run_underlying hs,Instr.sliceBounds,Instr.sliceBound,asIntOf,hz]
    ·simp[Instr.slice,run_underlying hs,Instr.sliceBounds,Instr.sliceBound,asIntOf,hz,hcc,Addr.add];intro hlt;omega
  ·exact h.elim
 ·exact h.elim
theorem Bi{es:List (List AV)}{ad:Option Addr}{n c sz a b:Nat}(hu:rep S w (.sl es) (.slice ad n c))(hlen:dF sz es)(hab:a≤b)(hb:b≤es.length):
  rep S w (.sl ((es.take b).drop a)) (sliced ad a b c sz):=by
 simp only[rep]at hu ⊢;obtain⟨ad',n',c',e,h1,h2,h3,h4⟩:=hu;injection e with e1 e2 e3;subst e1 e2 e3;refine⟨_,_,_,rfl,by simp;omega,by omega,by omega,?_⟩;by_cases hne:(es.take b).drop a=[]
 ·exact .inl hne
 ·refine .inr ?_;rcases h4 with h4|⟨bl,o,sz',rfl,hro,hs,hels⟩
  ·subst h4;simp at hne
  ·have hl : 0 < es.length := by
    rcases Nat.eq_zero_or_pos es.length with h0|h0
    ·have:=List.eq_nil_of_length_eq_zero h0;subst this;simp at hne
    ·exact h0
   have hsz:sz'=sz:=by have e1:=(mW es o 0 hels hl).1;have e2:=fJ.1 hlen (es.getD 0 []) (by simp only[List.getD,List.getElem?_eq_getElem hl,Option.getD_some];exact List.getElem_mem hl);rw[←e1,e2]
   subst hsz;have hlt:a<b:=by
    rcases Nat.lt_or_ge a b with h|h
    ·exact h
    ·exact absurd (List.drop_eq_nil_of_le (by simp;omega)) hne
   refine⟨bl,o+a*sz',sz',?_,hro,hs,?_⟩
   ·split
    ·omega
    ·simp[Addr.add_lit]
   ·exact vF _ o a (rD es o b hels)
theorem En{t:TypeId}{x:AV}{lo hi:Option AV}(h:jP P G t x lo hi K):
  ∃z,K z∧(gt G→∀(u:Value) (vl vh:Option Value),rep S w x u→(∀y,lo=some y→∃v,vl=some v∧rep S w y v)→(lo=none→vl=none)→(∀y,hi=some y→∃v,vh=some v∧rep S w y v)→(hi=none→vh=none) →
   oW P S H w z (Instr.sliceAt t u vl vh none)):=by
 unfold jP at h;split at h
 ·rename_i es ka a kb b;split at h
  ·rename_i e sz bytes he;refine⟨_,h.2,fun hg u vl vh hu hl _ hh _=>?_⟩;obtain⟨⟨h0,h1,h2⟩,h3⟩:=h.1 hg;obtain⟨v,rfl,hv⟩:=hl _ rfl;obtain⟨v',rfl,hv'⟩:=hh _ rfl;simp only[rep]at hv hv';subst hv hv';have hu':=hu;simp only[rep]at hu';obtain⟨ad,n,c,rfl,e1,e2,_⟩:=hu';obtain⟨hs,hz⟩:=vE he;have:=Bi (a:=a.toNat) (b:=b.toNat) hu h3 (by omega) (by omega);refine⟨_,this,fun w' _=>?_⟩;rw[run_sliceAt_slice w' t _ _ _ _ hs,run_slice_lh w' t ad n c hs ka kb a b h0 h1 (by omega),hz];rfl
  ·exact h.elim
 ·rename_i es ka a;split at h
  ·rename_i e sz bytes he;refine⟨_,h.2,fun hg u vl vh hu hl _ _ hh=>?_⟩;obtain⟨⟨h0,h1⟩,h3⟩:=h.1 hg;obtain⟨v,rfl,hv⟩:=hl _ rfl;have:=hh rfl;subst this;simp only[rep]at hv;subst hv;have hu':=hu;simp only[rep]at hu';obtain⟨ad,n,c,rfl,e1,e2,_⟩:=hu';obtain⟨hs,hz⟩:=vE he;have:=Bi (a:=a.toNat) (b:=es.length) hu h3 (by omega) (by omega);rw[List.take_length,e1]at this;refine⟨_,this,fun w' _=>?_⟩;rw[run_sliceAt_slice w' t _ _ _ _ hs,run_slice_l w' t ad n c hs ka a h0 (by omega),hz];rfl
  ·exact h.elim
 ·rename_i es kb b;split at h
  ·rename_i e he;refine⟨_,h.2,fun hg u vl vh hu _ hl hh _=>?_⟩;obtain⟨h0,h1⟩:=h.1 hg;obtain⟨v,rfl,hv⟩:=hh _ rfl;have:=hl rfl;subst this;simp only[rep]at hv;subst hv;obtain⟨hs,hz⟩:=vE he;simp only[rep]at hu;obtain⟨ad,n,c,rfl,e1,e2,e3,e4⟩:=hu;refine⟨sliced ad 0 b.toNat c e.2.1,?_,fun w' _=>?_⟩
   ·simp only[rep];refine⟨ad,b.toNat,c,?_,by simp;omega,by omega,e3,?_⟩
    ·simp only[sliced,Nat.sub_zero]
     congr 1
     split
     ·rfl
     ·cases ad <;> simp[Addr.add_zero']
    ·rcases e4 with e4|⟨bl,o,sz',rfl,hro,hsz,hels⟩
     ·left;rw[e4];simp
     ·exact .inr ⟨bl,o,sz',rfl,hro,hsz,rD es o _ hels⟩
   ·rw[run_sliceAt_slice w' t _ _ _ _ hs,run_slice_h w' t ad n c hs kb b h0 (by omega),hz];rfl
  ·exact h.elim
 ·rename_i s ka a kb b;split at h
  ·rename_i hs;refine⟨_,h.2,fun hg u vl vh hu hl _ hh _=>?_⟩;obtain⟨h0,h1,h2⟩:=h.1 hg;obtain⟨v,rfl,hv⟩:=hl _ rfl;obtain⟨v',rfl,hv'⟩:=hh _ rfl;simp only[rep]at hu hv hv';subst hu hv hv';refine fF gW fun w'=>?_
   rw[run_sliceAt_string w' t _ _ _ _ (dZ hs),run_slice_string w' t s ka kb a b (dZ hs) h0 h1 h2]
  ·exact h.elim
 ·rename_i s ka a;split at h
  ·rename_i hs;refine⟨_,h.2,fun hg u vl vh hu hl _ _ hh=>?_⟩;obtain⟨h0,h1⟩:=h.1 hg;obtain⟨v,rfl,hv⟩:=hl _ rfl;have:=hh rfl;subst this;simp only[rep]at hu hv;subst hu hv;refine fF gW fun w'=>?_
   rw[run_sliceAt_string w' t _ _ _ _ (dZ hs),run_slice_string_l w' t s (dZ hs) ka a h0 h1]
  ·exact h.elim
 ·rename_i s kb b;split at h
  ·rename_i hs;refine⟨_,h.2,fun hg u vl vh hu _ hl hh _=>?_⟩;obtain⟨h0,h1⟩:=h.1 hg;obtain⟨v,rfl,hv⟩:=hh _ rfl;have:=hl rfl;subst this;simp only[rep]at hu hv;subst hu hv;refine fF gW fun w'=>?_
   rw[run_sliceAt_string w' t _ _ _ _ (dZ hs),run_slice_string_h w' t s (dZ hs) kb b h0 h1]
  ·exact h.elim
 ·exact h.elim
theorem ER{k:Nat}{r:Row}(hH:pC S w H)(hk:H k=some r){a b c:Nat}{ad:Option Addr}{n:Nat}(hl:S.loc k=.slice ad n c)(hab:a≤b)(hb:b≤r.es.length):n=r.es.length∧n≤c∧rep S w (.oz k a b) (sliced ad a b c r.sz):=by
 have hR:=hH k r hk;obtain⟨xs,ho,_,_⟩:=hR.sl hl;have hcases:(ad=none∧n=0∧c=0∧r.es.length=0)∨∃g,ad=some ⟨g,0,none⟩∧n=r.es.length∧n≤c:=by
  rcases ho.2 with⟨hv,hn⟩|⟨g,cap,cur,hv,_,_,hnc,_⟩
  ·rw[hl]at hv;injection hv with h1 h2 h3;exact .inl ⟨h1,h2,h3,hn⟩
  ·rw[hl]at hv;injection hv with h1 h2 h3;subst h3;exact .inr ⟨g,h1,h2,by omega⟩
 have hn:n=r.es.length∧n≤c:=by rcases hcases with⟨_,h1,h2,h3⟩|⟨g,_,h1,h2⟩ <;> omega
 refine⟨hn.1,hn.2,?_⟩;simp only[rep,sliced];refine⟨hR.lt,ad,n,c,_,_,hl,rfl,hab,by omega,fun hlt=>?_,fun ha=>?_,hn.2,by omega,Nat.le_refl _⟩
 ·rcases hcases with⟨_,h1,h2,h3⟩|⟨g,h0,h1,h2⟩
  ·omega
  ·subst h0;refine⟨g,rfl,?_⟩;rw[if_neg (by omega)];simp[Addr.add_lit,hR.sz]
 ·subst ha;rcases hcases with⟨h0,_,_,_⟩|⟨g,h0,_,_⟩
  ·subst h0;simp
  ·subst h0;simp[Addr.add_lit]
theorem Dl{k:Nat}(hH:pC S w H){n c:Nat}(hl:S.loc k=.slice none n c):BN H k:=fun r hk=>by
 obtain⟨xs,ho,_,_⟩:=(hH k r hk).sl hl;rcases ho.2 with⟨_,hn⟩|⟨g,cap,cur,hv,_⟩
 ·exact List.eq_nil_of_length_eq_zero hn
 ·rw[hl]at hv;cases hv
theorem wQ{H':aC}{t:TypeId}{x a b m:AV}(hH:pC S w H)(h:xJ P G H t x a b m K):
  ∃z,K z∧(gt G→∀(u v1 v2 v3:Value),rep S w x u→rep S w a v1→rep S w b v2→rep S w m v3→oW P S H' w z (Instr.sliceAt t u (some v1) (some v2) (some v3))):=by
 unfold xJ at h;split at h
 ·rename_i k ka a kb b km m;split at h
  ·rename_i r e sz bytes hk he;obtain⟨hs,hz⟩:=vE he;refine⟨_,h.2,fun hg u v1 v2 v3 hu h1 h2 h3=>?_⟩;obtain⟨⟨q0,q1,q2,q3⟩,qs⟩:=h.1 hg;simp only[rep]at hu h1 h2 h3;subst h1 h2 h3 q0;obtain⟨_,rfl,ad,n,c,hloc⟩:=hu;obtain⟨p1,p2,p3⟩:=ER (a:=0) (b:=b.toNat) hH hk hloc (by omega) (by omega);rw[hloc];refine⟨sliced ad 0 b.toNat m.toNat sz,?_,fun w' _=>?_⟩
   ·simp only[rep,sliced]at p3 ⊢;obtain⟨z1,ad1,n1,c1,ad2,cc,zl,ze,z2,z3,z4,z5,z6,z7,z8⟩:=p3;rw[hloc]at zl;injection zl with e1 e2 e3;subst e1 e2 e3;injection ze with f1 f2 f3;have e5:=z5 trivial;refine⟨z1,ad,n,c,_,_,hloc,rfl,by omega,by omega,fun hlt=>?_,fun _=>?_,p2,by omega,by omega⟩
    ·obtain⟨g,g1,g2⟩:=z4 (by omega);refine⟨g,g1,?_⟩;subst g1;split <;> simp[Addr.add_lit]
    ·split
     ·rfl
     ·cases ad with
      | none=>rfl
      | some d=>simp[Addr.add]
   ·rw[run_sliceAt_slice w' t _ _ _ _ hs,run_slice_lhm w' t ad n c hs ka kb km 0 b m (by omega) (by omega) (by omega) (by omega),hz];rfl
  ·exact h.elim
 ·exact h.elim
theorem mX{H':aC}{t:TypeId}{x:AV}{lo hi:Option AV}(hH:pC S w H)(h:asl P G H t x lo hi K):
  ∃z,K z∧(gt G→∀(u:Value) (vl vh:Option Value),rep S w x u→(∀y,lo=some y→∃v,vl=some v∧rep S w y v)→(lo=none→vl=none)→(∀y,hi=some y→∃v,vh=some v∧rep S w y v)→(hi=none→vh=none) →
   oW P S H' w z (Instr.sliceAt t u vl vh none)):=by
 unfold asl at h;split at h
 ·rename_i k;split at h
  ·rename_i r e sz bytes hk he;obtain⟨hs,hz⟩:=vE he;split at h
   ·rename_i ka a kb b;refine⟨_,h.2,fun hg u vl vh hu hl _ hh _=>?_⟩;obtain⟨⟨h0,h1,h2⟩,h3⟩:=h.1 hg;obtain⟨v,rfl,hv⟩:=hl _ rfl;obtain⟨v',rfl,hv'⟩:=hh _ rfl;simp only[rep]at hv hv' hu;subst hv hv';obtain⟨_,rfl,ad,n,c,hloc⟩:=hu;obtain⟨q1,q2,q3⟩:=ER (a:=a.toNat) (b:=b.toNat) hH hk hloc (by omega) (by omega);rw[hloc];refine⟨_,q3,fun w' _=>?_⟩;rw[run_sliceAt_slice w' t _ _ _ _ hs,run_slice_lh w' t ad n c hs ka kb a b h0 h1 (by omega),hz,h3];rfl
   ·rename_i ka a;refine⟨_,h.2,fun hg u vl vh hu hl _ _ hh=>?_⟩;obtain⟨⟨h0,h1⟩,h3⟩:=h.1 hg;obtain⟨v,rfl,hv⟩:=hl _ rfl;have:=hh rfl;subst this;simp only[rep]at hv hu;subst hv;obtain⟨_,rfl,ad,n,c,hloc⟩:=hu;obtain⟨q1,q2,q3⟩:=ER (a:=a.toNat) (b:=r.es.length) hH hk hloc (by omega) (by omega);rw[hloc];refine⟨_,q3,fun w' _=>?_⟩;rw[run_sliceAt_slice w' t _ _ _ _ hs,run_slice_l w' t ad n c hs ka a h0 (by omega),hz,h3,q1];rfl
   ·rename_i kb b;refine⟨_,h.2,fun hg u vl vh hu _ hl hh _=>?_⟩;obtain⟨⟨h0,h1⟩,h3⟩:=h.1 hg;obtain⟨v,rfl,hv⟩:=hh _ rfl;have:=hl rfl;subst this;simp only[rep]at hv hu;subst hv;obtain⟨_,rfl,ad,n,c,hloc⟩:=hu;obtain⟨q1,q2,q3⟩:=ER (a:=0) (b:=b.toNat) hH hk hloc (by omega) (by omega);rw[hloc];refine⟨_,q3,fun w' _=>?_⟩;rw[run_sliceAt_slice w' t _ _ _ _ hs,run_slice_h w' t ad n c hs kb b h0 (by omega),hz,h3];rfl
   ·exact h.elim
  ·exact h.elim
 ·rename_i k a b;split at h
  ·rename_i r e sz bytes hk he;obtain⟨hs,hz⟩:=vE he;split at h
   ·rename_i kl l;refine⟨_,h.2,fun hg u vl vh hu hl _ _ hh=>?_⟩;obtain⟨⟨h0,h1⟩,h3⟩:=h.1 hg;obtain⟨v,rfl,hv⟩:=hl _ rfl;have:=hh rfl;subst this;simp only[rep]at hv hu;subst hv;obtain⟨hlt,ad,n,c,ad',cc,hloc,rfl,hab,hbn,hpos,hz0,hnc,hc1,hc2⟩:=hu;have hR:=hH k r hk;refine⟨sliced ad' l.toNat (b-a) cc r.sz,?_,fun w' _=>?_⟩
    ·simp only[rep,sliced];refine⟨hlt,ad,n,c,_,_,hloc,congrArg (fun m=>Value.slice _ m _) (by omega),by omega,hbn,fun hc=>?_,fun ha=>?_,hnc,by omega,by omega⟩
     ·obtain⟨g,rfl,rfl⟩:=hpos (by omega);refine⟨g,rfl,?_⟩;rw[if_neg (by omega)];simp[Addr.add_lit,hR.sz,Nat.add_mul]
     ·have ha0:a=0:=by omega
      have hl0:l.toNat=0:=by omega
      have e1:=hz0 ha0;subst e1;rw[hl0];split
      ·rfl
      ·rename_i hc0;obtain⟨g,e1,e2⟩:=hpos (by omega);rw[e1];simp[Addr.add_lit]
    ·rw[run_sliceAt_slice w' t _ _ _ _ hs,run_slice_l w' t ad' (b-a) cc hs kl l h0 (by omega),hz,h3];rfl
   ·exact h.elim
  ·exact h.elim
 ·exact En h
theorem Eo{t:TypeId}{x i:AV}(h:uU P G t x i K):
  ∃z,K z∧(gt G→∀u v,rep S w x u→rep S w i v→oW P S H w z (Instr.index t u v)):=by
 unfold uU at h;split at h
 ·rename_i s k n;split at h
  ·rename_i hs;refine⟨_,h.2,fun hg u v hu hv=>?_⟩;obtain⟨h0,h1⟩:=h.1 hg;simp only[rep]at hu hv;subst hu hv;refine fF gW fun w'=>?_
   rw[run_index_string w' t s k n (dZ hs),dif_pos ⟨h0,h1⟩];have hlt:n.toNat<s.data.size:=by have:s.size=s.data.size:=rfl;omega
   congr 4
   rw[Array.getD,dif_pos hlt];rfl
  ·exact h.elim
 ·rename_i cs k n;split at h
  ·rename_i m s l ha;obtain⟨e,inf,hu,hi,rfl,_,hl⟩:=DF ha;obtain⟨z,hz,hd⟩:=zI (S:=S) (H:=H) (w:=w) hl h.2;refine⟨z,hz,fun hg u v hu' hv=>?_⟩;obtain⟨h0,h1⟩:=h.1 hg;obtain⟨cs',rfl,hd'⟩:=hd hg u hu';simp only[rep]at hv;subst hv;obtain⟨r,hr,hrun⟩:=hd';refine⟨r,hr,fun w' hw=>?_⟩;have:=hrun w' hw;simp[Instr.index,asIntOf,run_underlying hu,h0,h1,sizeOf,typeInfo,hi];simpa using this
  ·exact h.elim
 ·exact h.elim
def opB(n:Nat):Operand→Bool
 | .tmp t=>decide (t<n)
 | _=>true
def FR(S:Sg)(w:World)(ρ:Env)(a:Act):Prop:=∀t,t<a.tmps.size→rep S w (ρ t) (a.tmps.getD t undef)
theorem cL{ρ:Env}{a:Act}(hF:FR S w ρ a){x:Operand}(hx:opB a.tmps.size x=true):rep S w (aev ρ x) (a.eval x):=by
 cases x with
 | tmp t=>simp only[opB,decide_eq_true_eq]at hx;exact hF t hx
 | const v=>exact yX v
 | global g=>trivial
 | func f=>exact gW
theorem KM{ρ:Env}{a:Act}(hF:FR S w ρ a){x:Operand}(hx:opB a.tmps.size x=true):rep S w (Fg ρ x) (a.eval x):=by
 cases x with
 | const v=>exact gW
 | tmp t=>exact cL hF hx
 | global g=>exact cL hF hx
 | func f=>exact cL hF hx
theorem zG{ρ:Env}{a:Act}(hF:FR S w ρ a):∀(l:List Operand),(∀x∈l,opB a.tmps.size x=true)→aV S w (l.map (Fg ρ)) (l.map a.eval)
 | [],_=>rfl
 | x::l,h=>by simp only[List.map_cons,aV];exact⟨_,_,rfl,KM hF (h x (by simp)),zG hF l fun y hy=>h y (by simp[hy])⟩
theorem kL{ρ:Env}{a:Act}(hF:FR S w ρ a):∀(l:List (Nat×Operand)) {K:List (Nat×List AV)→Prop},(∀p∈l,opB a.tmps.size p.2=true)→lG G ρ l K →
  ∃ps,K ps∧(gt G→ps.length=(l.map fun p=>(p.1,a.eval p.2)).length ∧
   ∀(j i:Nat) (c:List AV),ps[j]?=some (i,c)→∃(v:Value) (l':List Value),(l.map fun p=>(p.1,a.eval p.2))[j]?=some (i,v)∧v.cells=List.toArray l'∧aV S w c l'∧∀u∈l',u.oneCell'=true)
 | [],K,_,h=>⟨[],h,fun _=>⟨rfl,by simp⟩⟩
 | (i,x)::rest,K,hb,h=>by
  simp only[lG]at h;obtain⟨y,h,hy⟩:=aI (S:=S) (w:=w) h;obtain⟨cs,h,hcs⟩:=qE (S:=S) (w:=w) h;obtain⟨ps,hK,hps⟩:=kL hF rest (fun p hp=>hb p (by simp[hp])) h;refine⟨_,hK,fun hg=>?_⟩;obtain⟨e1,e2⟩:=hps hg;refine⟨by simpa using e1,fun j k c hj=>?_⟩;cases j with
  | zero=>simp at hj;obtain⟨rfl,rfl⟩:=hj;obtain⟨l',f1,f2,f3⟩:=hcs _ (hy hg _ (cL hF (hb (i,x) (by simp))));exact⟨_,l',by simp,f1,f2,f3⟩
  | succ j=>simpa using e2 j k c (by simpa using hj)
theorem oV{t:TypeId}{i:TypeInfo}{zv:Value}{z:List AV}{pl:List (Nat×Nat)}(hi:P.info? t=some i)(hzv:i.zero=some zv)(h1:∀u∈zv.cells.toList,u.oneCell'=true)(hr:aV S w z zv.cells.toList)(hp:eU P t=some pl){parts:List (Nat×List AV)}{vs:List (Nat×Value)}{cs:List AV}
  (hf:mO pl z parts=some cs) (hl:parts.length=vs.length)
  (hv:∀(j i:Nat) (c:List AV),parts[j]?=some (i,c)→∃(v:Value) (l:List Value),vs[j]?=some (i,v)∧v.cells=List.toArray l∧aV S w c l∧∀u∈l,u.oneCell'=true):
  ∃A',P.built t vs=some A'∧aV S w cs A'.toList∧∀v∈A'.toList,v.oneCell'=true:=by
 unfold eU at hp;split at hp
 ·rename_i fs hu;obtain⟨A',f1,f2,f3⟩:=tF (place:=fun i=>pl.toArray[i]?) (fun i on h=>by simpa using h) parts vs _ zv.cells cs hf hr h1 hl hv;refine⟨A',?_,f2,f3⟩;unfold Program.built;simp only[hi,hu,hzv,hp];exact f1
 ·rename_i n e hu;cases hie:P.info? e with
  | none=>simp[hie]at hp
  | some ie=>
   simp[hie]at hp;obtain⟨A',f1,f2,f3⟩:=tF (place:=fun i=>some (i*ie.size,ie.size)) (fun i on h=>by
    rw[←hp]at h;simp only[List.getElem?_map,Option.map_eq_some_iff]at h;obtain⟨j,h,rfl⟩:=h;have hlt:i<n:=by
     rcases Nat.lt_or_ge i n with h'|h'
     ·exact h'
     ·simp[List.getElem?_eq_none,h']at h
    simp[hlt]at h;rw[h]) parts vs _ zv.cells cs hf hr h1 hl hv
   refine⟨A',?_,f2,f3⟩;unfold Program.built;simp only[hi,hu,hzv,hie];exact f1
 ·simp at hp
theorem Fe{t:TypeId}{z:List AV}{pl:List (Nat×Nat)}(hz:eC P t=some z)(hp:eU P t=some pl){parts:List (Nat×List AV)}{vs:List (Nat×Value)}{cs:List AV}
  (hf:mO pl z parts=some cs) (hl:parts.length=vs.length)
  (hv:∀(j i:Nat) (c:List AV),parts[j]?=some (i,c)→∃(v:Value) (l:List Value),vs[j]?=some (i,v)∧v.cells=List.toArray l∧aV S w c l∧∀u∈l,u.oneCell'=true):
  ∃A',P.built t vs=some A'∧aV S w cs A'.toList∧∀v∈A'.toList,v.oneCell'=true:=by
 obtain⟨i,zv,hi,hzv,rfl,hsz,_,h1⟩:=jZ hz;exact oV hi hzv h1 (jD zv.cells.toList) hp hf hl hv
end
end Go.Aw
end
section
namespace Go.Aw
open Go.RowKit
section
variable{P:Program}{S:Sg}{H:aC}{w:World}{G:Option Bool}{K:AV→Prop}
theorem tV{a b:ByteArray}(h:a.toList=b.toList):a=b:=by rw[ByteArray.toList_eq,ByteArray.toList_eq]at h;exact ByteArray.ext (Array.toList_inj.1 h)
theorem Nq{t:TypeId}{kt:TypeId×TypeId}(h:FS P t=some kt):P.underlying t=some (.map kt.1 kt.2):=by
 unfold FS at h;split at h
 ·rename_i k e he;injection h with h;subst h;exact he
 ·simp at h
theorem yR{t:TypeId}{z:AV}(h:Bq P t=some z):∃v,(∀w':World,(zeroValue t).run P w'=.ok v w')∧∀S w,rep S w z v:=by
 unfold Bq at h;split at h
 ·rename_i i hi;split at h
  ·rename_i cs hz;split at h
   ·rename_i hall;injection h with h;subst h;refine⟨.agg cs,fun w'=>by simp[zeroValue,typeInfo,hi,hz],fun S w=>?_⟩;simp only[rep];refine⟨cs.toList,by simp,jD _,fun u hu=>List.all_eq_true.1 hall u hu⟩
   ·simp at h
  ·rename_i v _ hz;split at h
   ·injection h with h;subst h;exact⟨v,fun w'=>by simp[zeroValue,typeInfo,hi,hz],fun S w=>yX _⟩
   ·simp at h
  ·simp at h
 ·simp at h
theorem Ek{kt:TypeId}{x y:AV}{b:Bool}(hx:∀xs,x≠.agg xs)(h:jO P kt x y=some b){u v:Value}(hu:rep S w x u)(hv:rep S w y v):
  ∃d,P.underlying kt=some d∧Instr.sameNow d u v=some b∧(b=true→u=v∧∀n,Instr.sameBits (n+1) v u=true):=by
 unfold jO at h;split at h
 ·rename_i a c;simp only[rep]at hu hv;subst hu hv;split at h
  ·rename_i k hk;unfold kA at h;split at h
   ·rename_i k1 a1 k2 b1 e1 e2;cases e1;cases e2;split at h
    ·rename_i hkk;subst hkk;rcases iJ hk with⟨_,k',hk'⟩|⟨h0,_⟩|⟨h0,_⟩
     ·injection h with h;subst h;refine⟨_,hk',by simp[Instr.sameNow],fun hb=>?_⟩;have:a1=b1:=by simpa using hb
      subst this;exact⟨rfl,fun n=>by simp[Instr.sameBits]⟩
     ·simp at h0
     ·simp at h0
    ·simp at h
   ·rename_i a1 b1 e1 e2;cases e1;cases e2;rcases iJ hk with⟨h0,_⟩|⟨_,hk'⟩|⟨h0,_⟩
    ·simp at h0
    ·injection h with h;have hb:(a1 == b1)=b:=by rw[beq_toListBytes];exact h
     refine⟨_,hk',by simp[Instr.sameNow,hb],fun hb'=>?_⟩;have:a1=b1:=tV (by rw[hb']at h;simpa using h);subst this;exact⟨rfl,fun n=>by simp[Instr.sameBits,beq_toListBytes]⟩
    ·simp at h0
   ·rename_i a1 b1 e1 e2;cases e1;cases e2;rcases iJ hk with⟨h0,_⟩|⟨h0,_⟩|⟨_,hk'⟩
    ·simp at h0
    ·simp at h0
    ·injection h with h;subst h;refine⟨_,hk',by simp[Instr.sameNow],fun hb=>?_⟩;have:a1=b1:=by simpa using hb
     subst this;exact⟨rfl,fun n=>by simp[Instr.sameBits]⟩
   ·simp at h
  ·simp at h
 ·exact absurd rfl (hx _)
 ·simp at h
theorem GN{c:Nat}{x y:AV}(h:kA c x y=some true){u v:Value}(hu:rep S w x u)(hv:rep S w y v):u=v∧∀n,Instr.sameBits n v u=true:=by
 unfold kA at h;split at h
 ·simp only[rep]at hu hv;subst hu hv;split at h
  ·rename_i hk;subst hk;injection h with h;have e:=by simpa using h
   subst e;exact⟨rfl,fun n=>by cases n <;> simp[Instr.sameBits]⟩
  ·simp at h
 ·rename_i a b;simp only[rep]at hu hv;subst hu hv;injection h with h;have:a=b:=tV (by simpa using h);subst this;exact⟨rfl,fun n=>by cases n <;> simp[Instr.sameBits,beq_toListBytes]⟩
 ·simp only[rep]at hu hv;subst hu hv;injection h with h;have e:=by simpa using h
  subst e;exact⟨rfl,fun n=>by cases n <;> simp[Instr.sameBits]⟩
 ·simp at h
theorem xE:∀(l:List Nat) (xs ys:List AV) (us vs:List Value),cZ l xs ys=some true→aV S w xs us→aV S w ys vs→us=vs∧∀n,((vs.zip us).all fun p=>Instr.sameBits n p.1 p.2)=true
 | l,[],ys,us,vs,h,hu,hv=>by
  cases ys with
  | nil=>simp only[aV]at hu hv;subst hu hv;exact⟨rfl,fun n=>rfl⟩
  | cons y ys=>cases l <;> simp[cZ]at h
 | l,x::xs,ys,us,vs,h,hu,hv=>by
  cases l with
  | nil=>simp[cZ]at h
  | cons c l=>
   cases ys with
   | nil=>simp[cZ]at h
   | cons y ys=>
    simp only[cZ]at h;cases h1:kA c x y with
    | none=>simp[h1,rW]at h
    | some b1=>
     cases h2:cZ l xs ys with
     | none=>simp[h1,h2,rW]at h
     | some b2=>simp[h1,h2,rW]at h;obtain⟨rfl,rfl⟩:=h;simp only[aV]at hu hv;obtain⟨u,us',rfl,q1,q2⟩:=hu;obtain⟨v,vs',rfl,q3,q4⟩:=hv;obtain⟨rfl,e1⟩:=GN h1 q1 q3;obtain⟨rfl,e2⟩:=xE l xs ys us' vs' h2 q2 q4;exact⟨rfl,fun n=>by simp only[List.zip_cons_cons,List.all_cons,e1 n,Bool.true_and];exact e2 n⟩
theorem DU{kt:TypeId}{xs:List AV}{y:AV}{b:Bool}(h:jO P kt (.agg xs) y=some b){u v:Value}(hu:rep S w (.agg xs) u)(hv:rep S w y v):
  (∀w':World,(Op.equal kt u v).run P w'=.ok b w')∧(b=true→u=v∧∀n,Instr.sameBits (n+1) v u=true):=by
 cases y with
 | agg ys=>
  simp only[jO]at h;split at h
  ·rename_i l hl;simp only[rep]at hu hv;obtain⟨us,rfl,hus,_⟩:=hu;obtain⟨vs,rfl,hvs,_⟩:=hv;refine⟨fun w'=>pD hl h hus hvs 9998 w',fun hb=>?_⟩;subst hb;obtain⟨rfl,hs⟩:=xE l xs ys us vs h hus hvs;exact⟨rfl,fun n=>by simp only[Instr.sameBits,beq_self_eq_true,Bool.true_and];exact hs n⟩
  ·simp at h
 | _=>simp[jO]at h
theorem CZ{kt:TypeId}{xs:List AV}{u:Value}(hu:rep S w (.agg xs) u):∀(es:List (List AV)) (ms:List MapEntry) (i:Nat) {oi:Option Nat},hO S w i es ms→mN (jO P kt (.agg xs)) es i=some oi →
  (oi=none→∀w':World,(Instr.findAsking kt u ms i).run P w'=.ok none w')∧∀j,oi=some j→∃m cs,i≤j∧ms[j-i]?=some m∧es[j-i]?=some cs∧(∀w':World,(Instr.findAsking kt u ms i).run P w'=.ok (some (j,m.val)) w')∧m.key=u∧(∀n,Instr.sameBits (n+1) m.key u=true)∧m.born=j∧aV S w cs [m.key,m.val]
 | [],ms,i,oi,he,hf=>by simp only[hO]at he;subst he;simp only[mN]at hf;injection hf with hf;subst hf;exact⟨fun _ w'=>by simp[Instr.findAsking],fun j h=>by simp at h⟩
 | cs::r,ms,i,oi,he,hf=>by
  simp only[hO]at he;obtain⟨m,t,rfl,hb,hr,ht⟩:=he;unfold mN at hf;have hk:rep S w (cs.getD 0 .any) m.key:=by
   cases cs with
   | nil=>simp[aV]at hr
   | cons c cs=>simp only[aV]at hr;obtain⟨_,_,e,h1,_⟩:=hr;injection e with e1 e2;subst e1;simpa using h1
  split at hf
  ·rename_i heq;injection hf with hf;subst hf;obtain⟨h1,h2⟩:=DU heq hu hk;refine⟨fun h=>by simp at h,fun j hj=>?_⟩;injection hj with hj;subst hj;exact⟨m,cs,Nat.le_refl _,by simp,by simp,fun w'=>by simp[Instr.findAsking,h1 w'],(h2 rfl).1.symm,(h2 rfl).2,hb,hr⟩
  ·rename_i heq;obtain⟨h1,h2⟩:=DU heq hu hk;obtain⟨g1,g2⟩:=CZ hu r t (i+1) ht hf;refine⟨fun h w'=>by simp[Instr.findAsking,h1 w',g1 h w'],fun j hj=>?_⟩;obtain⟨m',cs',q1,q2,q3,q4,q5⟩:=g2 j hj;have e:j-i=(j-(i+1))+1:=by omega
   exact⟨m',cs',by omega,by rw[e];simpa using q2,by rw[e];simpa using q3,fun w'=>by simp[Instr.findAsking,h1 w',q4 w'],q5⟩
  ·simp at hf
theorem Eg{kt:TypeId}{x:AV}{u:Value}{d:TypeDesc}(hx:∀xs,x≠.agg xs)(hd:P.underlying kt=some d)(hu:rep S w x u):∀(es:List (List AV)) (ms:List MapEntry) (i:Nat) {oi:Option Nat},hO S w i es ms→mN (jO P kt x) es i=some oi →
  (oi=none→Instr.findNow d u ms i=some none)∧∀j,oi=some j→∃m cs,i≤j∧ms[j-i]?=some m∧es[j-i]?=some cs∧Instr.findNow d u ms i=some (some (j,m.val))∧m.key=u∧(∀n,Instr.sameBits (n+1) m.key u=true)∧m.born=j∧aV S w cs [m.key,m.val]
 | [],ms,i,oi,he,hf=>by simp only[hO]at he;subst he;simp only[mN]at hf;injection hf with hf;subst hf;exact⟨fun _=>rfl,fun j h=>by simp at h⟩
 | cs::r,ms,i,oi,he,hf=>by
  simp only[hO]at he;obtain⟨m,t,rfl,hb,hr,ht⟩:=he;unfold mN at hf;have hk:rep S w (cs.getD 0 .any) m.key:=by
   cases cs with
   | nil=>simp[aV]at hr
   | cons c cs=>simp only[aV]at hr;obtain⟨_,_,e,h1,_⟩:=hr;injection e with e1 e2;subst e1;simpa using h1
  split at hf
  ·rename_i heq;injection hf with hf;subst hf;obtain⟨d',hd',h1,h2⟩:=Ek hx heq hu hk;rw[hd]at hd';injection hd' with hd';subst hd';refine⟨fun h=>by simp at h,fun j hj=>?_⟩;injection hj with hj;subst hj;exact⟨m,cs,Nat.le_refl _,by simp,by simp,by simp[Instr.findNow,h1],(h2 rfl).1.symm,(h2 rfl).2,hb,hr⟩
  ·rename_i heq;obtain⟨d',hd',h1,h2⟩:=Ek hx heq hu hk;rw[hd]at hd';injection hd' with hd';subst hd';obtain⟨g1,g2⟩:=Eg hx hd hu r t (i+1) ht hf;refine⟨fun h=>by simp[Instr.findNow,h1,g1 h],fun j hj=>?_⟩;obtain⟨m',cs',q1,q2,q3,q4,q5⟩:=g2 j hj;have e:j-i=(j-(i+1))+1:=by omega
   exact⟨m',cs',by omega,by rw[e];simpa using q2,by rw[e];simpa using q3,by simp[Instr.findNow,h1,q4],q5⟩
  ·simp at hf
theorem sQ:∀(i:Nat) (es:List (List AV)) (ms:List MapEntry),hO S w i es ms→ms.length=es.length
 | _,[],ms,h=>by simp only[hO]at h;simp[h]
 | i,cs::r,ms,h=>by simp only[hO]at h;obtain⟨m,t,rfl,_,_,h3⟩:=h;simp[sQ (i+1) r t h3]
theorem GG:∀(i:Nat) (es:List (List AV)) (ms:List MapEntry) (j:Nat),hO S w i es ms→j<es.length→∃m,ms[j]?=some m∧m.born=i+j∧aV S w (es.getD j []) [m.key,m.val]
 | _,[],_,_,_,h=>by simp at h
 | i,cs::r,ms,0,h,_=>by simp only[hO]at h;obtain⟨m,t,rfl,h1,h2,_⟩:=h;exact⟨m,by simp,by simpa using h1,by simpa using h2⟩
 | i,cs::r,ms,j+1,h,hj=>by simp only[hO]at h;obtain⟨m,t,rfl,_,_,h3⟩:=h;obtain⟨m',g1,g2,g3⟩:=GG (i+1) r t j h3 (by simpa using hj);exact⟨m',by simpa using g1,by omega,by simpa using g3⟩
theorem wT:∀(i:Nat) (es:List (List AV)) (ms:List MapEntry) (j:Nat) {cs:List AV} {m:MapEntry},hO S w i es ms→m.born=i+j→aV S w cs [m.key,m.val]→hO S w i (es.set j cs) (ms.set j m)
 | _,[],ms,_,_,_,h,_,_=>by simp only[hO]at h;subst h;simp[hO]
 | i,c::r,ms,0,cs,m,h,hb,hr=>by simp only[hO]at h;obtain⟨m0,t,rfl,_,_,h3⟩:=h;simp only[List.set_cons_zero,hO];exact⟨m,t,rfl,by simpa using hb,hr,h3⟩
 | i,c::r,ms,j+1,cs,m,h,hb,hr=>by simp only[hO]at h;obtain⟨m0,t,rfl,h1,h2,h3⟩:=h;simp only[List.set_cons_succ,hO];exact⟨m0,t.set j m,rfl,h1,h2,wT (i+1) r t j h3 (by omega) hr⟩
theorem wN:∀(i:Nat) (es:List (List AV)) (ms:List MapEntry) {cs:List AV} {m:MapEntry},hO S w i es ms→m.born=i+es.length→aV S w cs [m.key,m.val]→hO S w i (es++[cs]) (ms++[m])
 | i,[],ms,cs,m,h,hb,hr=>by simp only[hO]at h;subst h;simp only[List.nil_append,hO];exact⟨m,[],rfl,by simpa using hb,hr,rfl⟩
 | i,c::r,ms,cs,m,h,hb,hr=>by simp only[hO]at h;obtain⟨m0,t,rfl,h1,h2,h3⟩:=h;simp only[List.cons_append,hO];exact⟨m0,t++[m],rfl,h1,h2,wN (i+1) r t h3 (by simp at hb;omega) hr⟩
theorem rS(e:Bool)(n:Nat):∀(fs:List Field) (l:List Nat) (xs:List AV) (o:Nat) (us pu:List Value),iE P o fs=some l→cZ l xs xs=some true→aV S w xs us→pu.length=o→∀w':World,
   ((forIn (m:=Sem) fs PUnit.unit fun f _=>do
     if f.name ≠ "_" then
       Instr.checkKey e (n+1) f.type (←part f.type (pu++us).toArray f.offset)
     pure (ForInStep.yield PUnit.unit)).run P w')=.ok PUnit.unit w'
 | [],l,xs,o,us,pu,hf,he,hx,hp,w'=>by simp
 | f::fs,l,xs,o,us,pu,hf,he,hx,hp,w'=>by
   simp only[iE]at hf;split at hf
   · rename_i hc;simp only[Bool.and_eq_true,bne_iff_ne,ne_eq,beq_iff_eq]at hc;obtain⟨⟨hn,ho⟩,hi⟩:=hc;cases hk:mG P f.type with
     | none=>simp[hk]at hf
     | some c=>
       cases hr:iE P (o+1) fs with
       | none=>simp[hk,hr]at hf
       | some l'=>
         simp[hk,hr]at hf;subst hf;cases xs with
         | nil=>simp[cZ]at he
         | cons x xs=>
           simp only[cZ]at he;cases hb1:kA c x x with
           | none=>simp[hb1,rW]at he
           | some b1=>
             cases hb2:cZ l' xs xs with
             | none=>simp[hb1,hb2,rW]at he
             | some b2=>
               simp[hb1,hb2,rW]at he;obtain⟨rfl,rfl⟩:=he;simp only[aV]at hx;obtain⟨u,us',rfl,hu,hus⟩:=hx;have hld:=E5 hk hi;have p1:∀w':World,(part f.type (pu++u::us').toArray f.offset).run P w'=.ok u w':=fun w'=>jE (w:=w') hld (by rw[ho,←hp];simp)
               have ih:=rS e n fs l' xs (o+1) us' (pu++[u]) hr hb2 hus (by simp[hp]);simp only[List.append_assoc,List.singleton_append]at ih;have q:∀w':World,(Instr.checkKey e (n+1) f.type u).run P w'=.ok () w':=fun w'=>by
                 rcases iJ hk with⟨_,k',hk'⟩|⟨_,hk'⟩|⟨_,hk'⟩ <;>
                   (unfold Instr.checkKey;simp only[Sem.run_bind,run_underlying hk',Result.andThen];rfl)
               simp only[List.forIn_cons,hn,ne_eq,not_false_eq_true,if_true,Sem.run_bind,p1,q,Result.andThen_ok,Sem.run_pure];exact ih w'
   · simp at hf
theorem sN{kt:TypeId}{x:AV}(h:kM P kt x=true){u:Value}(hu:rep S w x u)(e:Bool)(n:Nat)(w':World):(∃d,P.underlying kt=some d)∧(Instr.checkKey e (n+2) kt u).run P w'=.ok () w':=by
 unfold kM at h;split at h
 all_goals first|(simp at h;done)|skip
 case h_4 xs=>
  simp only[Bool.and_eq_true]at h;obtain⟨hs,h⟩:=h;split at h
  ·rename_i l hl;have h:cZ l xs xs=some true:=by simpa using h
   unfold xP at hs;split at hs
   ·rename_i fs hd;refine⟨⟨_,hd⟩,?_⟩;simp only[rep]at hu;obtain⟨us,rfl,hus,_⟩:=hu;unfold pI at hl;rw[hd]at hl;simp only at hl;split at hl
    ·unfold Instr.checkKey;simp only[Sem.run_bind,run_underlying hd,Result.andThen_ok];have q:=rS e n fs.toList l xs 0 us [] hl h hus rfl w';rw[←Array.forIn_toList];exact(congrArg (fun r:Result PUnit=>r.andThen fun a w'=>Sem.run P (pure ()) w') q).trans rfl
    ·simp at hl
   ·simp at hs
  ·simp at h
 all_goals
  simp only[beq_iff_eq]at h;simp only[rep]at hu;subst hu;rcases iJ h with⟨h0,k',hk'⟩|⟨h0,hk'⟩|⟨h0,hk'⟩ <;> first
   | (simp at h0;done)
   | exact⟨⟨_,hk'⟩,by unfold Instr.checkKey;simp only[Sem.run_bind,run_underlying hk',Result.andThen];rfl⟩
theorem HK{t:TypeId}{kt:TypeId×TypeId}{x:AV}{r:Row}{k:Nat}{u:Value}{oi:Option Nat}(ht:FS P t=some kt)(hp:kM P kt.1 x=true)(hf:mN (jO P kt.1 x) r.es 0=some oi)(hm:NF S w k r)(hu:rep S w x u):
  ∃g ms,S.loc k=.map (some g)∧w.heap[g]?=some (.map (List.toArray ms) ms.length)∧hO S w 0 r.es ms∧P.underlying t=some (.map kt.1 kt.2)∧(∀e (w':World),(Instr.checkKey e 10000 kt.1 u).run P w'=.ok () w') ∧
   ((oi=none∧∀w':World,(Instr.findKey kt.1 u ms).run P w'=.ok none w') ∨
   ∃j m cs,oi=some j∧ms[j]?=some m∧r.es[j]?=some cs∧(∀w':World,(Instr.findKey kt.1 u ms).run P w'=.ok (some (j,m.val)) w')∧m.key=u∧(∀n,Instr.sameBits (n+1) m.key u=true)∧m.born=j∧aV S w cs [m.key,m.val]):=by
 obtain⟨g,ms,h1,h2,h3,_⟩:=hm;obtain⟨⟨d,hd⟩,_⟩:=sN hp hu true 0 w;refine⟨g,ms,h1,h2,h3,Nq ht,fun e w'=>(sN hp hu e 9998 w').2,?_⟩;by_cases hx:∀xs,x≠.agg xs
 ·obtain⟨f1,f2⟩:=Eg hx hd hu r.es ms 0 h3 hf;cases oi with
  | none=>exact .inl ⟨rfl,fun w'=>by simp[Instr.findKey,run_underlying hd,f1 rfl]⟩
  | some j=>obtain⟨m,cs,_,q2,q3,q4,q5,q6,q7,q8⟩:=f2 j rfl;exact .inr ⟨j,m,cs,rfl,by simpa using q2,by simpa using q3,fun w'=>by simp[Instr.findKey,run_underlying hd,q4],q5,q6,q7,q8⟩
 ·have hx':∃xs,x=.agg xs:=Classical.byContradiction fun h=>hx fun xs e=>h ⟨xs,e⟩
  obtain⟨xs,rfl⟩:=hx';have hfn:Instr.findNow d u ms 0=none∨ms=[]:=by
   cases ms with
   | nil=>exact .inr rfl
   | cons m t=>
    refine .inl ?_;simp only[rep]at hu;obtain⟨us,rfl,_⟩:=hu;have:Instr.sameNow d (.agg us.toArray) m.key=none:=by cases d <;> rfl
    simp[Instr.findNow,this]
  have hkey:∀w':World,(Instr.findKey kt.1 u ms).run P w'=(Instr.findAsking kt.1 u ms).run P w':=fun w'=>by
   rcases hfn with h|h
   ·simp[Instr.findKey,run_underlying hd,h]
   ·subst h;simp[Instr.findKey,run_underlying hd,Instr.findNow,Instr.findAsking]
  obtain⟨f1,f2⟩:=CZ hu r.es ms 0 h3 hf;cases oi with
  | none=>exact .inl ⟨rfl,fun w'=>by rw[hkey];exact f1 rfl w'⟩
  | some j=>obtain⟨m,cs,_,q2,q3,q4,q5,q6,q7,q8⟩:=f2 j rfl;exact .inr ⟨j,m,cs,rfl,by simpa using q2,by simpa using q3,fun w'=>by rw[hkey];exact q4 w',q5,q6,q7,q8⟩
theorem BV{cs:List AV}{a b:Value}(h:aV S w cs [a,b]):∃x y,cs=[x,y]∧rep S w x a∧rep S w y b:=by
 cases cs with
 | nil=>simp[aV]at h
 | cons x cs=>
  simp only[aV]at h;obtain⟨u,t,e,h1,h2⟩:=h;injection e with e1 e2;subst e1 e2;cases cs with
  | nil=>simp[aV]at h2
  | cons y cs=>
   simp only[aV]at h2;obtain⟨u,t,e,h3,h4⟩:=h2;injection e with e1 e2;subst e1 e2;cases cs with
   | nil=>exact⟨x,y,rfl,h1,h3⟩
   | cons _ _=>simp[aV]at h4
theorem Cg{t:TypeId}{x key:AV}{ok:Bool}(hH:pC S w H)(h:oH P H t x key ok K):
  ∃z,K z∧(gt G→∀u v,rep S w x u→rep S w key v→oW P S H w z (Instr.lookup t u v ok)):=by
 unfold oH zH at h;split at h
 ·rename_i j;split at h
  ·rename_i r kt hj ht;split at h
   ·rename_i oi hf;obtain⟨hp,h⟩:=h;split at h
    ·rename_i z hz;refine⟨_,h,fun _ u v hu hv=>?_⟩;simp only[rep]at hu;obtain⟨_,rfl,g0,hl0⟩:=hu;obtain⟨g,ms,h1,h2,h3,h4,h5,h6⟩:=HK ht hp hf ((hH j r hj).mp hl0) hv;obtain⟨zv,hzr,hzz⟩:=yR hz;have hget:∀w',Agree S H w w'→w'.heap[g]?=some (.map (List.toArray ms) ms.length):=fun w' ha=>(ha.own j r hj g (by rw[h1];rfl)).trans h2
     rcases h6 with⟨rfl,h6⟩|⟨i,m,cs,rfl,q1,q2,q3,q4,q5,q6,q7⟩
     ·cases ok with
      | false=>refine⟨zv,hzz S w,fun w' ha=>?_⟩;simp[Instr.lookup,run_underlying h4,h1,MapKept.run_getObj_map (hget w' ha),h5,h6,hzr,BB]
      | true=>
       refine⟨.tuple #[zv,.bool false],?_,fun w' ha=>?_⟩
       ·simp only[BB,if_true,rep,aV];exact⟨[zv,.bool false],by simp,_,_,rfl,hzz S w,_,_,rfl,rfl,rfl⟩
       ·simp[Instr.lookup,run_underlying h4,h1,MapKept.run_getObj_map (hget w' ha),h5,h6,hzr,BB]
     ·obtain⟨xk,xv,rfl,r1,r2⟩:=BV q7;have e1:(r.es.getD i []).getD 1 .any=xv:=by simp[List.getD,q2]
      cases ok with
      | false=>refine⟨m.val,by simp only[BB,e1];exact r2,fun w' ha=>?_⟩;simp[Instr.lookup,run_underlying h4,h1,MapKept.run_getObj_map (hget w' ha),h5,q3]
      | true=>
       refine⟨.tuple #[m.val,.bool true],?_,fun w' ha=>?_⟩
       ·simp only[BB,if_true,e1,rep,aV];exact⟨[m.val,.bool true],by simp,_,_,rfl,r2,_,_,rfl,rfl,rfl⟩
       ·simp[Instr.lookup,run_underlying h4,h1,MapKept.run_getObj_map (hget w' ha),h5,q3]
    ·exact h.elim
   ·exact h.elim
  ·exact h.elim
 ·exact h.elim
end
end Go.Aw
end
section
namespace Go.Aw
open Go.RowKit
section
variable{P:Program}{S:Sg}{H:aC}{w:World}{G:Option Bool}{K:AV→Prop}
theorem mQ{s:Sem Value}{v:Value}{w':World}(h:s.run P w'=.ok v w'):(do pure (Next.value (←s)):Sem Next).run P w'=.ok (.value v) w':=by simp[h]
def iS(P:Program)(S:Sg)(H:aC)(w:World)(a:Act)(op:Op)(z:AV):Prop:=
 ∃v,rep S w z v∧∀w',Agree S H w w'→∀o:Oper,o.op=op→(execOp a.eval o).run P w'=.ok (.value v) w'
theorem iS.of_does{a:Act}{op:Op}{z:AV}{s:Sem Value}(hs:oW P S H w z s)(he:∀o:Oper,o.op=op→execOp a.eval o=(do pure (Next.value (←s)):Sem Next)):iS P S H w a op z:=by obtain⟨v,hv,hr⟩:=hs;exact⟨v,hv,fun w' ha o ho=>by rw[he o ho];exact mQ (hr w' ha)⟩
theorem kF{G:Option Bool}{ρ:Env}{a:Act}(hF:FR S w ρ a):∀(l:List Operand) {K:List AV→Prop},(∀x∈l,opB a.tmps.size x=true)→uN G ρ l K →
  ∃ys,K ys∧(gt G→aV S w ys (l.map a.eval))
 | [],K,_,h=>⟨[],h,fun _=>by simp[aV]⟩
 | x::rest,K,hb,h=>by simp only[uN]at h;obtain⟨y,h,hy⟩:=aI (S:=S) (w:=w) h;obtain⟨ys,hK,hys⟩:=kF hF rest (fun x hx=>hb x (by simp[hx])) h;refine⟨_,hK,fun hg=>?_⟩;simp only[List.map_cons,aV];exact⟨_,_,rfl,hy hg _ (cL hF (hb x (by simp))),hys hg⟩
theorem BS{t:TypeId}(h:tW P t=true):∃d,P.underlying t=some d∧∀ms,d≠.interface ms:=by
 unfold tW at h;split at h
 ·simp at h
 ·rename_i d hne hd;exact⟨d,hd,fun ms e=>hne ms e⟩
 ·simp at h
theorem zR{ρ:Env}{a:Act}{op:Op}(hb:∀x∈op.operands,opB a.tmps.size x=true)(hF:FR S w ρ a)(hH:pC S w H)(h:fO P G ρ H op K):
  ∃z,K z∧(gt G→iS P S H w a op z):=by
 have ev:=fun x hx=>cL hF (hb x hx)
 cases op <;> simp only[fO]at h <;> simp only[Op.operands]at ev hb <;> try exact h.elim
 case move x=>obtain⟨z,hz,hy⟩:=aI (S:=S) (w:=w) h;exact⟨z,hz,fun hg=>⟨_,hy hg _ (ev x (by simp)),fun w' _ o ho=>by simp[execOp,ho]⟩⟩
 case assign x=>obtain⟨z,hz,hy⟩:=aI (S:=S) (w:=w) h;exact⟨z,hz,fun hg=>⟨_,hy hg _ (ev x (by simp)),fun w' _ o ho=>by simp[execOp,ho]⟩⟩
 case pick c x y=>
  obtain⟨zc,h,hc⟩:=aI (S:=S) (w:=w) h;split at h
  ·rename_i b;obtain⟨z,hz,hy⟩:=GH (S:=S) (w:=w) h;refine⟨z,hz,fun hg=>?_⟩;have e:=OQ (hc hg _ (ev c (by simp)));refine⟨_,hy hg _ _ (ev x (by simp)) (ev y (by simp)),fun w' _ o ho=>?_⟩;simp[execOp,ho,e,asBool]
  ·obtain⟨h0,b,h⟩:=h;exact⟨_,h,fun hg=>(h0 hg).elim⟩
  ·exact h.elim
 case build t parts=>
  obtain⟨ps,h,hps⟩:=kL hF parts.toList (fun p hp=>hb p.2 (by simpa using⟨p.1,by simpa using hp⟩)) h;unfold pX at h;split at h
  ·rename_i z pl hz hpl;split at h
   ·rename_i cs hcs;refine⟨_,h,fun hg=>?_⟩;obtain⟨e1,e2⟩:=hps hg;obtain⟨A',f1,f2,f3⟩:=Fe (S:=S) (w:=w) hz hpl hcs e1 e2;refine⟨.agg A',by simp only[rep];exact⟨A'.toList,by simp,f2,f3⟩,fun w' _ o ho=>?_⟩;have:(parts.map fun(p:Nat×Operand)=>(p.1,a.eval p.2)).toList=parts.toList.map fun p=>(p.1,a.eval p.2):=by simp
    rw[←this]at f1;simp only[execOp,ho];exact mQ (run_build w' t _ A' f1)
   ·exact h.elim
  ·exact h.elim
 case load t x=>
  split at h
  ·rename_i l hl;obtain⟨y,h,hy⟩:=aI (S:=S) (w:=w) h;obtain⟨z,hz,hd⟩:=zE hl hH h;exact⟨z,hz,fun hg=>iS.of_does (hd hg _ (hy hg _ (ev x (by simp)))) (fun o ho=>by simp[execOp,ho])⟩
  ·exact h.elim
 case nilCheck x=>
  obtain⟨y,h,hy⟩:=aI (S:=S) (w:=w) h;split at h
  ·refine⟨_,h,fun hg=>?_⟩;have e:=hy hg _ (ev x (by simp));refine⟨_,e,fun w' _ o ho=>?_⟩;simp only[rep]at e;obtain⟨b,p,e,_⟩:=e;simp[execOp,ho,e]
  ·refine⟨_,h,fun hg=>?_⟩;have e:=hy hg _ (ev x (by simp));refine⟨_,e,fun w' _ o ho=>?_⟩;simp only[rep]at e;obtain⟨_,b,p,c,_,e⟩:=e;simp[execOp,ho,e]
  ·obtain⟨h0,cs,off,h⟩:=h;exact⟨_,h,fun hg=>(h0 hg).elim⟩
  ·exact h.elim
 case binOp op t x y t'=>
  split at h
  ·rename_i hny;have hy:y=.const (.slice none 0 0):=by
    unfold nS at hny;split at hny
    ·rfl
    ·simp at hny
   subst hy;obtain⟨x',h,hx⟩:=aI (S:=S) (w:=w) h;obtain⟨hst,h⟩:=h;obtain⟨e,hut⟩:=oD hst;have exec:∀(b:Bool) (ad:Option Addr) (n c:Nat),a.eval x=.slice ad n c→(op=.eql∧b=ad.isNone∨op=.neq∧b= !ad.isNone)→iS P S H w a (.binOp op t x (.const (.slice none 0 0)) t') (.v (.bool b)):=by
    intro b ad n c hx hb;refine⟨.bool b,by simp only[rep],fun w' _ o ho=>?_⟩;have ec:a.eval (.const (.slice none 0 0))=.slice none 0 0:=rfl;simp only[execOp,ho,hx,ec];have hg:(eqGuard op t x (.const (.slice none 0 0)) (.slice ad n c) (.slice none 0 0)).run P w'=.ok () w':=eZ op t x _ _ _ (by simp) (by simp) w';have he:(Op.equal t (.slice ad n c) (.slice none 0 0)).run P w'=.ok ad.isNone w':=by have e0:Op.equal t (.slice ad n c) (.slice none 0 0)=Op.equalIn (9999+1) t (.slice ad n c) (.slice none 0 0):=rfl;rw[e0];unfold Op.equalIn;cases ad <;> simp[run_underlying hut]
    rcases hb with⟨rfl,rfl⟩|⟨rfl,rfl⟩
    ·exact mQ (by simp only[Sem.run_bind,hg,Result.andThen_ok];simp[binOp,he])
    ·exact mQ (by simp only[Sem.run_bind,hg,Result.andThen_ok];simp[binOp,he])
   by_cases hg:gt G
   ·have ex:=hx hg _ (ev x (by simp));unfold mM at h;split at h
    ·simp only[rep]at ex;obtain⟨ad,n,c,hv,hl,_,_,hc⟩:=ex;cases ad with
     | none=>
      rcases hc with hc|⟨b,o,sz,hc,_⟩
      ·exact⟨_,h.1 hc,fun _=>exec _ _ _ _ hv (.inl ⟨rfl,rfl⟩)⟩
      ·simp at hc
     | some ad=>exact⟨_,h.2,fun _=>exec _ _ _ _ hv (.inl ⟨rfl,rfl⟩)⟩
    ·simp only[rep]at ex;obtain⟨ad,n,c,hv,hl,_,_,hc⟩:=ex;cases ad with
     | none=>
      rcases hc with hc|⟨b,o,sz,hc,_⟩
      ·exact⟨_,h.1 hc,fun _=>exec _ _ _ _ hv (.inr ⟨rfl,rfl⟩)⟩
      ·simp at hc
     | some ad=>exact⟨_,h.2,fun _=>exec _ _ _ _ hv (.inr ⟨rfl,rfl⟩)⟩
    ·simp only[rep]at ex;obtain⟨_,hy,ad,n,c,hv⟩:=ex;cases ad with
     | none=>exact⟨_,h.1 (Dl hH (hy.symm.trans hv)),fun _=>exec _ _ _ _ hv (.inl ⟨rfl,rfl⟩)⟩
     | some ad=>exact⟨_,h.2,fun _=>exec _ _ _ _ hv (.inl ⟨rfl,rfl⟩)⟩
    ·simp only[rep]at ex;obtain⟨_,hy,ad,n,c,hv⟩:=ex;cases ad with
     | none=>exact⟨_,h.1 (Dl hH (hy.symm.trans hv)),fun _=>exec _ _ _ _ hv (.inr ⟨rfl,rfl⟩)⟩
     | some ad=>exact⟨_,h.2,fun _=>exec _ _ _ _ hv (.inr ⟨rfl,rfl⟩)⟩
    ·simp only[rep]at ex;exact⟨_,h,fun _=>exec _ none 0 0 ex (.inl ⟨rfl,rfl⟩)⟩
    ·simp only[rep]at ex;exact⟨_,h,fun _=>exec _ none 0 0 ex (.inr ⟨rfl,rfl⟩)⟩
    ·exact h.elim
   ·unfold mM at h;split at h
    ·exact⟨_,h.2,fun hg'=>absurd hg' hg⟩
    ·exact⟨_,h.2,fun hg'=>absurd hg' hg⟩
    ·exact⟨_,h.2,fun hg'=>absurd hg' hg⟩
    ·exact⟨_,h.2,fun hg'=>absurd hg' hg⟩
    ·exact⟨_,h,fun hg'=>absurd hg' hg⟩
    ·exact⟨_,h,fun hg'=>absurd hg' hg⟩
    ·exact h.elim
  split at h
  ·rename_i _ hif;have hy:y=.const .nilIface:=by
    unfold Ll at hif;split at hif
    ·rfl
    ·simp at hif
   subst hy;obtain⟨x',h,hx⟩:=aI (S:=S) (w:=w) h;have eq0:∀w',uE P t=true→(Op.equal t .nilIface .nilIface).run P w'=.ok true w':=fun w' ht=>by
    have hu:∃ms,P.underlying t=some (.interface ms):=by
     unfold uE at ht;split at ht
     ·exact⟨_,by assumption⟩
     ·simp at ht
    obtain⟨ms,hu⟩:=hu;have e0:Op.equal t .nilIface .nilIface=Op.equalIn (9999+1) t .nilIface .nilIface:=rfl;rw[e0];unfold Op.equalIn;simp[run_underlying hu]
   have eq1:∀{u v} w',uE P t=true→(Op.equal t (.iface u v) .nilIface).run P w'=.ok false w':=fun {u v} w' ht=>by
    have hu:∃ms,P.underlying t=some (.interface ms):=by
     unfold uE at ht;split at ht
     ·exact⟨_,by assumption⟩
     ·simp at ht
    obtain⟨ms,hu⟩:=hu;have e0:Op.equal t (.iface u v) .nilIface=Op.equalIn (9999+1) t (.iface u v) .nilIface:=rfl;rw[e0];unfold Op.equalIn;simp[run_underlying hu]
   have ec:a.eval (.const .nilIface)=.nilIface:=rfl;unfold sK at h;split at h
   ·refine⟨_,h.2,fun hg=>⟨.bool true,by simp only[rep],fun w' _ o ho=>?_⟩⟩;have ex:=hx hg _ (ev x (by simp));simp only[rep]at ex;have hgd:(eqGuard .eql t x (.const .nilIface) .nilIface .nilIface).run P w'=.ok () w':=by simp[eqGuard]
    simp only[execOp,ho,ex,ec];exact mQ (by simp only[Sem.run_bind,hgd,Result.andThen_ok];simp[binOp,eq0 w' h.1])
   ·refine⟨_,h.2,fun hg=>⟨.bool false,by simp only[rep],fun w' _ o ho=>?_⟩⟩;have ex:=hx hg _ (ev x (by simp));simp only[rep]at ex;have hgd:(eqGuard .neq t x (.const .nilIface) .nilIface .nilIface).run P w'=.ok () w':=by simp[eqGuard]
    simp only[execOp,ho,ex,ec];exact mQ (by simp only[Sem.run_bind,hgd,Result.andThen_ok];simp[binOp,eq0 w' h.1])
   ·rename_i u v _;refine⟨_,h.2,fun hg=>⟨.bool true,by simp only[rep],fun w' _ o ho=>?_⟩⟩;have ex:=hx hg _ (ev x (by simp));simp only[rep]at ex;have hgd:(eqGuard .neq t x (.const .nilIface) (.iface u v) .nilIface).run P w'=.ok () w':=by simp[eqGuard]
    simp only[execOp,ho,ex,ec];exact mQ (by simp only[Sem.run_bind,hgd,Result.andThen_ok];simp[binOp,eq1 w' h.1])
   ·exact h.elim
  obtain⟨x',h,hx⟩:=aI (S:=S) (w:=w) h;obtain⟨y',h,hy⟩:=aI (S:=S) (w:=w) h;obtain⟨z,hz,hd⟩:=Jc (S:=S) (H:=H) (w:=w) h;exact⟨z,hz,fun hg=>iS.of_does (hd hg _ _ (hx hg _ (ev x (by simp))) (hy hg _ (ev y (by simp))) x y) (fun o ho=>by simp[execOp,ho])⟩
 case unOp op t x=>obtain⟨x',h,hx⟩:=aI (S:=S) (w:=w) h;obtain⟨z,hz,hd⟩:=MA (P:=P) (S:=S) (H:=H) (w:=w) h;exact⟨z,hz,fun hg=>iS.of_does (hd _ (hx hg _ (ev x (by simp)))) (fun o ho=>by simp[execOp,ho])⟩
 case convert src dst x=>obtain⟨x',h,hx⟩:=aI (S:=S) (w:=w) h;obtain⟨z,hz,hd⟩:=Ii (S:=S) (H:=H) (w:=w) h;exact⟨z,hz,fun hg=>iS.of_does (hd _ (hx hg _ (ev x (by simp)))) (fun o ho=>by simp[execOp,ho])⟩
 case slice t x lo hi m=>
  cases m with
  | some m=>
   cases lo with
   | some lo=>
    cases hi with
    | none=>exact h.elim
    | some hi=>simp only at h;obtain⟨x',h,hx⟩:=aI (S:=S) (w:=w) h;obtain⟨lo',h,hlo⟩:=aI (S:=S) (w:=w) h;obtain⟨hi',h,hhi⟩:=aI (S:=S) (w:=w) h;obtain⟨m',h,hm⟩:=aI (S:=S) (w:=w) h;obtain⟨z,hz,hd⟩:=wQ (S:=S) (w:=w) (H':=H) hH h;exact⟨z,hz,fun hg=>iS.of_does (hd hg _ _ _ _ (hx hg _ (ev x (by simp))) (hlo hg _ (ev lo (by simp))) (hhi hg _ (ev hi (by simp))) (hm hg _ (ev m (by simp)))) (fun o ho=>by simp[execOp,ho])⟩
   | none=>
    cases hi with
    | none=>exact h.elim
    | some hi=>simp only at h;obtain⟨x',h,hx⟩:=aI (S:=S) (w:=w) h;obtain⟨hi',h,hhi⟩:=aI (S:=S) (w:=w) h;obtain⟨m',h,hm⟩:=aI (S:=S) (w:=w) h;obtain⟨z,hz,hd⟩:=zC (S:=S) (w:=w) (H:=H) h;exact⟨z,hz,fun hg=>iS.of_does (hd hg _ _ _ (hx hg _ (ev x (by simp))) (hhi hg _ (ev hi (by simp))) (hm hg _ (ev m (by simp)))) (fun o ho=>by simp[execOp,ho])⟩
  | none=>
   simp only at h;obtain⟨x',h,hx⟩:=aI (S:=S) (w:=w) h;cases lo with
   | some lo=>
    cases hi with
    | some hi=>
     obtain⟨lo',h,hlo⟩:=aI (S:=S) (w:=w) h;obtain⟨hi',h,hhi⟩:=aI (S:=S) (w:=w) h;obtain⟨z,hz,hd⟩:=mX hH h;refine⟨z,hz,fun hg=>iS.of_does (hd hg _ (some (a.eval lo)) (some (a.eval hi)) (hx hg _ (ev x (by simp))) ?_ (by simp) ?_ (by simp)) (fun o ho=>by simp[execOp,ho])⟩
     ·intro y hy;injection hy with hy;subst hy;exact⟨_,rfl,hlo hg _ (ev lo (by simp))⟩
     ·intro y hy;injection hy with hy;subst hy;exact⟨_,rfl,hhi hg _ (ev hi (by simp))⟩
    | none=>obtain⟨lo',h,hlo⟩:=aI (S:=S) (w:=w) h;obtain⟨z,hz,hd⟩:=mX hH h;refine⟨z,hz,fun hg=>iS.of_does (hd hg _ (some (a.eval lo)) none (hx hg _ (ev x (by simp))) ?_ (by simp) (by simp) (by simp)) (fun o ho=>by simp[execOp,ho])⟩;intro y hy;injection hy with hy;subst hy;exact⟨_,rfl,hlo hg _ (ev lo (by simp))⟩
   | none=>
    cases hi with
    | some hi=>obtain⟨hi',h,hhi⟩:=aI (S:=S) (w:=w) h;obtain⟨z,hz,hd⟩:=mX hH h;refine⟨z,hz,fun hg=>iS.of_does (hd hg _ none (some (a.eval hi)) (hx hg _ (ev x (by simp))) (by simp) (by simp) ?_ (by simp)) (fun o ho=>by simp[execOp,ho])⟩;intro y hy;injection hy with hy;subst hy;exact⟨_,rfl,hhi hg _ (ev hi (by simp))⟩
    | none=>exact h.elim
 case fieldAddr t x f=>obtain⟨x',h,hx⟩:=aI (S:=S) (w:=w) h;obtain⟨z,hz,hd⟩:=yI (G:=G) (S:=S) (H:=H) (w:=w) h;exact⟨z,hz,fun hg=>iS.of_does (hd hg _ (hx hg _ (ev x (by simp)))) (fun o ho=>by simp[execOp,ho])⟩
 case field t x f=>
  split at h
  ·rename_i o l ho;obtain⟨x',h,hx⟩:=aI (S:=S) (w:=w) h;obtain⟨fs,fd,i,hu,hf,rfl,hi,_,hl⟩:=uH ho;obtain⟨z,hz,hd⟩:=zI (S:=S) (H:=H) (w:=w) hl h;refine⟨z,hz,fun hg=>?_⟩;obtain⟨cs,e,hd⟩:=hd hg _ (hx hg _ (ev x (by simp)));refine iS.of_does (s:=Instr.field t (.agg cs) f) ?_ (fun o ho=>by simp[execOp,ho,e]);obtain⟨v,hv,hr⟩:=hd;refine⟨v,hv,fun w' ha=>?_⟩;simp[Instr.field,run_underlying hu,hf,asAgg,hr w' ha]
  ·exact h.elim
 case indexAddr t x i=>obtain⟨x',h,hx⟩:=aI (S:=S) (w:=w) h;obtain⟨i',h,hi⟩:=aI (S:=S) (w:=w) h;obtain⟨z,hz,hd⟩:=yY hH h;exact⟨z,hz,fun hg=>iS.of_does (hd hg _ _ (hx hg _ (ev x (by simp))) (hi hg _ (ev i (by simp)))) (fun o ho=>by simp[execOp,ho])⟩
 case index t x i=>obtain⟨x',h,hx⟩:=aI (S:=S) (w:=w) h;obtain⟨i',h,hi⟩:=aI (S:=S) (w:=w) h;obtain⟨z,hz,hd⟩:=Eo (S:=S) (H:=H) (w:=w) h;exact⟨z,hz,fun hg=>iS.of_does (hd hg _ _ (hx hg _ (ev x (by simp))) (hi hg _ (ev i (by simp)))) (fun o ho=>by simp[execOp,ho])⟩
 case extract x i=>
  obtain⟨x',h,hx⟩:=aI (S:=S) (w:=w) h;split at h
  ·rename_i vs;refine⟨_,h.2,fun hg=>?_⟩;have e:=hx hg _ (ev x (by simp));simp only[rep]at e;obtain⟨l,e,hl⟩:=e;obtain⟨u,h1,h2⟩:=sZ vs l i hl (h.1 hg);exact⟨u,h2,fun w' _ o ho=>by simp[execOp,ho,e,Instr.extract,h1]⟩
  ·exact h.elim
 case lookup t x i ok=>obtain⟨x',h,hx⟩:=aI (S:=S) (w:=w) h;obtain⟨i',h,hi⟩:=aI (S:=S) (w:=w) h;obtain⟨z,hz,hd⟩:=Cg (G:=G) hH h;exact⟨z,hz,fun hg=>iS.of_does (hd hg _ _ (hx hg _ (ev x (by simp))) (hi hg _ (ev i (by simp)))) (fun o ho=>by simp[execOp,ho])⟩
 case makeInterface t x=>
  obtain⟨x',h,hx⟩:=aI (S:=S) (w:=w) h;unfold xQ at h;split at h
  ·rename_i b;refine⟨_,h.2,fun hg=>⟨.iface t b,by simp only[rep],fun w' _ o ho=>?_⟩⟩;have ex:=hx hg _ (ev x (by simp));simp only[rep]at ex;obtain⟨d,hu,hd⟩:=BS h.1;simp[execOp,ho,ex,Instr.makeInterface,run_underlying hu]
   try (split <;> simp_all)
  ·exact h.elim
 case typeAssert x xt t ok=>
  cases ok with
  | false=>exact h.elim
  | true=>
   simp only at h;obtain⟨x',h,hx⟩:=aI (S:=S) (w:=w) h;unfold tU at h;split at h
   ·rename_i d b;obtain⟨dt,hu,hd⟩:=BS h.1;have h:=h.2;split at h
    ·rename_i hdt;refine⟨_,h,fun hg=>⟨.tuple #[b,.bool true],?_,fun w' _ o ho=>?_⟩⟩
     ·simp only[rep,aV];exact⟨_,rfl,_,_,rfl,rfl,_,_,rfl,rfl,rfl⟩
     ·have ex:=hx hg _ (ev x (by simp));simp only[rep]at ex;simp[execOp,ho,ex,Instr.typeAssert,run_underlying hu,hdt]
      try (split <;> simp_all)
    ·rename_i hdt;obtain⟨z,hz,hk⟩:=h;obtain⟨v,hv,hr⟩:=yR hz;refine⟨_,hk,fun hg=>⟨.tuple #[v,.bool false],?_,fun w' _ o ho=>?_⟩⟩
     ·simp only[rep,aV];exact⟨_,rfl,_,_,rfl,hr _ _,_,_,rfl,rfl,rfl⟩
     ·have ex:=hx hg _ (ev x (by simp));simp only[rep]at ex;simp[execOp,ho,ex,Instr.typeAssert,run_underlying hu,hdt,hv w']
      try (split <;> simp_all)
   ·exact h.elim
 case makeFunc f first cap=>
  cases f <;> simp only at h <;> try exact h.elim
  rename_i f;obtain⟨hf,h⟩:=h;subst hf;obtain⟨ys,hz,hys⟩:=kF hF cap.toList (fun x hx=>hb x (by simp[Array.mem_toList_iff.1 hx])) h;refine⟨_,hz,fun hg=>⟨.func (.func f) #[] (cap.map a.eval),?_,fun w' _ o ho=>by simp[execOp,ho,Instr.makeFunc]⟩⟩;simp only[rep];exact⟨cap.toList.map a.eval,by rw[←Array.toList_map],hys hg⟩
theorem wY{H':aC}{ρ:Env}{a:Act}{t:TypeId}{x:Operand}{lo hi m:Option Operand}(hb:∀y∈(Op.slice t x lo hi m).operands,opB a.tmps.size y=true)(hF:FR S w ρ a)(hH:pC S w H)(h:fO P G ρ H (.slice t x lo hi m) K):
  ∃z,K z∧(gt G→iS P S H' w a (.slice t x lo hi m) z):=by
 have ev:=fun x hx=>cL hF (hb x hx)
 simp only[fO]at h;simp only[Op.operands]at ev hb;cases m with
 | some m=>
  cases lo with
  | some lo=>
   cases hi with
   | none=>exact h.elim
   | some hi=>simp only at h;obtain⟨x',h,hx⟩:=aI (S:=S) (w:=w) h;obtain⟨lo',h,hlo⟩:=aI (S:=S) (w:=w) h;obtain⟨hi',h,hhi⟩:=aI (S:=S) (w:=w) h;obtain⟨m',h,hm⟩:=aI (S:=S) (w:=w) h;obtain⟨z,hz,hd⟩:=wQ (S:=S) (w:=w) (H':=H') hH h;exact⟨z,hz,fun hg=>iS.of_does (hd hg _ _ _ _ (hx hg _ (ev x (by simp))) (hlo hg _ (ev lo (by simp))) (hhi hg _ (ev hi (by simp))) (hm hg _ (ev m (by simp)))) (fun o ho=>by simp[execOp,ho])⟩
  | none=>
   cases hi with
   | none=>exact h.elim
   | some hi=>simp only at h;obtain⟨x',h,hx⟩:=aI (S:=S) (w:=w) h;obtain⟨hi',h,hhi⟩:=aI (S:=S) (w:=w) h;obtain⟨m',h,hm⟩:=aI (S:=S) (w:=w) h;obtain⟨z,hz,hd⟩:=zC (S:=S) (w:=w) (H:=H') h;exact⟨z,hz,fun hg=>iS.of_does (hd hg _ _ _ (hx hg _ (ev x (by simp))) (hhi hg _ (ev hi (by simp))) (hm hg _ (ev m (by simp)))) (fun o ho=>by simp[execOp,ho])⟩
 | none=>
  simp only at h;obtain⟨x',h,hx⟩:=aI (S:=S) (w:=w) h;cases lo with
  | some lo=>
   cases hi with
   | some hi=>
    obtain⟨lo',h,hlo⟩:=aI (S:=S) (w:=w) h;obtain⟨hi',h,hhi⟩:=aI (S:=S) (w:=w) h;obtain⟨z,hz,hd⟩:=mX hH h;refine⟨z,hz,fun hg=>iS.of_does (hd hg _ (some (a.eval lo)) (some (a.eval hi)) (hx hg _ (ev x (by simp))) ?_ (by simp) ?_ (by simp)) (fun o ho=>by simp[execOp,ho])⟩
    ·intro y hy;injection hy with hy;subst hy;exact⟨_,rfl,hlo hg _ (ev lo (by simp))⟩
    ·intro y hy;injection hy with hy;subst hy;exact⟨_,rfl,hhi hg _ (ev hi (by simp))⟩
   | none=>obtain⟨lo',h,hlo⟩:=aI (S:=S) (w:=w) h;obtain⟨z,hz,hd⟩:=mX hH h;refine⟨z,hz,fun hg=>iS.of_does (hd hg _ (some (a.eval lo)) none (hx hg _ (ev x (by simp))) ?_ (by simp) (by simp) (by simp)) (fun o ho=>by simp[execOp,ho])⟩;intro y hy;injection hy with hy;subst hy;exact⟨_,rfl,hlo hg _ (ev lo (by simp))⟩
  | none=>
   cases hi with
   | some hi=>obtain⟨hi',h,hhi⟩:=aI (S:=S) (w:=w) h;obtain⟨z,hz,hd⟩:=mX hH h;refine⟨z,hz,fun hg=>iS.of_does (hd hg _ none (some (a.eval hi)) (hx hg _ (ev x (by simp))) (by simp) (by simp) ?_ (by simp)) (fun o ho=>by simp[execOp,ho])⟩;intro y hy;injection hy with hy;subst hy;exact⟨_,rfl,hhi hg _ (ev hi (by simp))⟩
   | none=>exact h.elim
end
end Go.Aw
end
section
namespace Go.Aw
def Ku:Array Value:=(Go.Lib.pow10Tab.map fun z=>Value.int .u64 z).toArray
def ET:Array Value:=(Go.Lib.deBruijn64tab.map fun z:Nat=>Value.int .u8 (z:Int)).toArray
def PA(a:Array Value)(o:Option (Array Value)):Prop:=o=some a
def Lm(o:Option (Array Value)):Prop:=∃m:Int,o=some #[.int .i64 m]
def LJ(o:Option (Array Value)):Prop:=∃ev:Value,o=some #[ev]∧(ev=.nilIface∨∃te pe,ev=.iface te pe)
def Ae:List (Nat×(Option (Array Value)→Prop)):=[(3,PA Ku),(5,PA ET),(0,Lm),(2,LJ)]
theorem Ob{t:Nat×(Option (Array Value)→Prop)}(h:t∈Ae){o:Option (Array Value)}(ho:t.2 o):∃a,o=some a:=by
 simp only[Ae,List.mem_cons,List.not_mem_nil,or_false]at h;rcases h with rfl|rfl|rfl|rfl
 ·exact⟨_,ho⟩
 ·exact⟨_,ho⟩
 ·obtain⟨m,h⟩:=ho;exact⟨_,h⟩
 ·obtain⟨m,h,_⟩:=ho;exact⟨_,h⟩
end Go.Aw
end
section
namespace Go.Aw
open Go.RowKit
def fB(w:World)(g:Nat):Option (Array Value):=match w.heap[g]? with
 | some (.cells cs _ _)=>some cs
 | _=>none
def ED(S:Sg)(w:World):Prop:=∀t∈Ae,S.ro t.1∧t.2 (fB w t.1)
theorem ED.keep{S S':Sg}{w w':World}(h:ED S w)(hle:S.le S')(hk:fI S w w'):ED S' w':=fun t ht=>
 ⟨hle.ro _ (h t ht).1,by
  have e:fB w' t.1=fB w t.1:=by unfold fB;rw[hk t.1 (h t ht).1]
  rw[e];exact(h t ht).2⟩
structure St(S:Sg)(w:World)(H:aC):Prop where
 ro_fz:∀k,S.ro k→S.fz k
 fz_lt:∀k,S.fz k→k<w.heap.size
 rows:pC S w H
 free:∀k r,H k=some r→∀g,blk (S.loc k)=some g→¬S.fz g
 disj:∀k k' r r',H k=some r→H k'=some r'→k≠k'→∀g,blk (S.loc k)=some g→blk (S.loc k')≠some g
 tabs:ED S w
structure Grow(S:Sg)(w:World)(S':Sg)(w':World):Prop where
 le:S.le S'
 fz:∀k,S.fz k→S'.fz k
 os:w'.os=w.os
 tape:w'.tape=w.tape
 output:w'.output=w.output
 size:w.heap.size≤w'.heap.size
 same:∀k,S.fz k→w'.heap[k]?=w.heap[k]?
 newro:∀k,S'.ro k→S.ro k∨¬S.fz k
theorem Grow.refl(S:Sg)(w:World):Grow S w S w:=⟨S.le_refl,fun _ h=>h,rfl,rfl,rfl,Nat.le_refl _,fun _ _=>rfl,fun _ h=>.inl h⟩
theorem Grow.trans{S S' S'':Sg}{w w' w'':World}(h:Grow S w S' w')(h':Grow S' w' S'' w''):Grow S w S'' w'':=
 ⟨Sg.le_trans h.le h'.le,fun k hk=>h'.fz k (h.fz k hk),h'.os.trans h.os,h'.tape.trans h.tape,h'.output.trans h.output,Nat.le_trans h.size h'.size,
  fun k hk=>(h'.same k (h.fz k hk)).trans (h.same k hk),
  fun k hk=>by rcases h'.newro k hk with h1|h1;exact h.newro k h1;exact .inr fun h2=>h1 (h.fz k h2)⟩
def dO(N:Nat)(H H':aC):Prop:=∀k,k<N→H k=none→H' k=none
theorem dO.refl(N:Nat)(H:aC):dO N H H:=fun _ _ h=>h
theorem dO.trans{N N':Nat}{H H' H'':aC}(h:dO N H H')(h':dO N' H' H'')(hN:N≤N'):dO N H H'':=fun k hk h0=>h' k (Nat.lt_of_lt_of_le hk hN) (h k hk h0)
section
variable{S S':Sg}{w w':World}{H H':aC}
theorem St.kept(hS:St S w H)(hs:∀k,S.fz k→w'.heap[k]?=w.heap[k]?):fI S w w':=fun k hk=>hs k (hS.ro_fz k hk)
theorem Grow.kept(hS:St S w H)(hg:Grow S w S' w'):fI S w w':=hS.kept hg.same
theorem St.fresh(hS:St S w H):H S.N=none:=by
 cases h:H S.N with
 | none=>rfl
 | some r=>exact absurd (hS.rows _ r h).lt (Nat.lt_irrefl _)
theorem RowOK.block_lt{k:Nat}{r:Row}(h:RowOK S w k r){g:Nat}(hg:blk (S.loc k)=some g):g<w.heap.size:=by
 rcases h.own with⟨xs,ho,_⟩|⟨g',ms,h1,h2,_⟩
 ·refine(ho.lt g ?_).2;rcases ho.2 with⟨hv,_⟩|⟨_,_,_,hv,_⟩ <;> (rw[hv]at hg ⊢;exact hg)
 ·rw[h1]at hg;injection hg with hg;subst hg;exact(Array.getElem?_eq_some_iff.1 h2).1
theorem yT(hle:S.le S')(hk:fI S w w'):∀(i:Nat) (es:List (List AV)) (ms:List MapEntry),hO S w i es ms→hO S' w' i es ms
 | _,[],_,h=>h
 | i,cs::r,ms,h=>by simp only[hO]at h ⊢;obtain⟨m,t,rfl,h1,h2,h3⟩:=h;exact⟨m,t,rfl,h1,dN hle hk _ _ h2,yT hle hk (i+1) r t h3⟩
theorem RowOK.keep{k:Nat}{r:Row}(h:RowOK S w k r)(hle:S.le S')(hk:fI S w w')(hb:∀g,blk (S.loc k)=some g→w'.heap[g]?=w.heap[g]?):RowOK S' w' k r:=by
 refine⟨Nat.lt_of_lt_of_le h.lt hle.N,by rw[hle.sz k h.lt];exact h.sz,h.pos,h.len,?_⟩;rcases h.own with⟨xs,ho,hr,h1⟩|⟨g,ms,h1,h2,h3⟩
 ·refine .inl ?_;unfold EP;rw[hle.loc k h.lt];refine⟨xs,⟨ho.1,?_⟩,dN hle hk _ _ hr,h1⟩;rcases ho.2 with h2|⟨g,cap,cur,hv,h3,h4,h5⟩
  ·exact .inl h2
  ·exact .inr ⟨g,cap,cur,hv,h3,by rw[hb g (by rw[hv];rfl)];exact h4,h5⟩
 ·refine .inr ⟨g,ms,?_,?_,yT hle hk 0 _ _ h3.1,h3.2⟩
  ·rw[hle.loc k h.lt];exact h1
  ·rw[hb g (by rw[h1];rfl)];exact h2
theorem FR.keep{ρ:Env}{a:Act}(h:FR S w ρ a)(hle:S.le S')(hk:fI S w w'):FR S' w' ρ a:=fun t ht=>gB hle hk _ _ (h t ht)
theorem FR.put{ρ:Env}{a:Act}(h:FR S w ρ a){d:Option Nat}{z:AV}{v:Value}(hv:rep S w z v):FR S w (upd ρ d z) (a.put d v):=by
 intro t ht;cases d with
 | none=>exact h t ht
 | some d=>
  simp only[Act.put,upd]at ht ⊢;have hlt:t<a.tmps.size:=by simpa using ht
  by_cases e:t=d
  ·subst e;simpa[Array.getD,hlt]using hv
  ·have h1:=h t hlt;have e':d≠t:=fun h=>e h.symm
   simp only[if_neg e];have:(a.tmps.setIfInBounds d v).getD t undef=a.tmps.getD t undef:=by simp[Array.getD_eq_getD_getElem?,Array.getElem?_setIfInBounds,e']
   rw[this];exact h1
def Sg.addRow(S:Sg)(v:Value)(sz:Nat):Sg:={ S with loc:=fun k=>if k=S.N then v else S.loc k,sz:=fun k=>if k=S.N then sz else S.sz k,N:=S.N+1 }
theorem Sg.le_addRow(S:Sg)(v:Value)(sz:Nat):S.le (S.addRow v sz):=
 ⟨fun _ h=>h,Nat.le_succ _,fun k hk=>by simp[Sg.addRow,Nat.ne_of_lt hk],fun k hk=>by simp[Sg.addRow,Nat.ne_of_lt hk]⟩
theorem nB{k:Nat}{r:Option Row}:bG H k r k=r:=aD H k r
theorem St.newRow(hS:St S w H){e:TypeId}{sz cap:Nat}{es:List (List AV)}{xs:List Value}{cur:Array Value}(hpos:0<sz)(hlen:∀cs∈es,cs.length=sz)
  (hr:aV S w es.flatten xs) (h1:∀u∈xs,u.oneCell'=true) (hn:es.length≤cap) (hcap:cap≤maxLen) (hcur:cur.size=cap*sz) (htake:cur.toList.take (es.length*sz)=xs) {w':World}
  (hw:w'.heap=w.heap.push (.cells cur e)) (hos:w'.os=w.os) (htape:w'.tape=w.tape) (hout:w'.output=w.output):
  St (S.addRow (.slice (some ⟨w.heap.size,0,none⟩) es.length cap) sz) w' (bG H S.N (some ⟨e,sz,es⟩))∧Grow S w (S.addRow (.slice (some ⟨w.heap.size,0,none⟩) es.length cap) sz) w':=by
 have hsame:∀k,k<w.heap.size→w'.heap[k]?=w.heap[k]?:=fun k hk=>by rw[hw,Array.getElem?_push,if_neg (by omega)]
 have hnew:w'.heap[w.heap.size]?=some (.cells cur e (0,0)):=by rw[hw];simp
 have hsz:w'.heap.size=w.heap.size+1:=by rw[hw];simp
 have hle:=S.le_addRow (.slice (some ⟨w.heap.size,0,none⟩) es.length cap) sz;have hkept:fI S w w':=fun k hk=>hsame k (hS.fz_lt k (hS.ro_fz k hk))
 have hlocN:(S.addRow (.slice (some ⟨w.heap.size,0,none⟩) es.length cap) sz).loc S.N=.slice (some ⟨w.heap.size,0,none⟩) es.length cap:=by simp[Sg.addRow]
 have hloc:∀k,k<S.N→(S.addRow (.slice (some ⟨w.heap.size,0,none⟩) es.length cap) sz).loc k=S.loc k:=hle.loc;have hold:∀k r,k≠S.N→bG H S.N (some ⟨e,sz,es⟩) k=some r→H k=some r:=fun k r hk h=>by rwa [aK _ _ _ _ hk]at h
 refine⟨⟨hS.ro_fz,fun k hk=>by have:=hS.fz_lt k hk;omega,?_,?_,?_,hS.tabs.keep hle hkept⟩,⟨hle,fun _ h=>h,hos,htape,hout,by omega,fun k hk=>hsame k (hS.fz_lt k hk),fun _ h=>.inl h⟩⟩
 ·intro k r hk;by_cases e0:k=S.N
  ·subst e0;rw[nB]at hk;injection hk with hk;subst hk;refine⟨Nat.lt_succ_self _,by simp[Sg.addRow],hpos,hlen,.inl ⟨xs,⟨?_,.inr ⟨w.heap.size,cap,cur,hlocN,Nat.zero_le _,hnew,hn,hcap,hcur,htake⟩⟩,dN hle hkept _ _ hr,h1⟩⟩;rw[eL _ _ hr,gZ es hlen]
  ·have hk':=hold k r e0 hk;exact(hS.rows k r hk').keep hle hkept fun g hg=>hsame g ((hS.rows k r hk').block_lt hg)
 ·intro k r hk g hg;by_cases e0:k=S.N
  ·subst e0;rw[hlocN]at hg;simp only[blk,Option.some.injEq]at hg;subst hg;exact fun h=>Nat.lt_irrefl _ (hS.fz_lt _ h)
  ·have hk':=hold k r e0 hk;rw[hloc k (hS.rows k r hk').lt]at hg;exact hS.free k r hk' g hg
 ·intro k k' r r' hk hk' hne g hg hg';by_cases e0:k=S.N
  ·subst e0;rw[hlocN]at hg;simp only[blk,Option.some.injEq]at hg;subst hg;have hk2:=hold k' r' (Ne.symm hne) hk';rw[hloc k' (hS.rows k' r' hk2).lt]at hg';exact Nat.lt_irrefl _ ((hS.rows k' r' hk2).block_lt hg')
  ·have hk2:=hold k r e0 hk;rw[hloc k (hS.rows k r hk2).lt]at hg;by_cases e1:k'=S.N
   ·subst e1;rw[hlocN]at hg';simp only[blk,Option.some.injEq]at hg';subst hg';exact Nat.lt_irrefl _ ((hS.rows k r hk2).block_lt hg)
   ·have hk3:=hold k' r' e1 hk';rw[hloc k' (hS.rows k' r' hk3).lt]at hg';exact hS.disj k k' r r' hk2 hk3 hne g hg hg'
theorem St.newMap(hS:St S w H){w':World}(hw:w'.heap=w.heap.push (.map #[] 0))(hos:w'.os=w.os)(htape:w'.tape=w.tape)(hout:w'.output=w.output):
  St (S.addRow (.map (some w.heap.size)) 2) w' (bG H S.N (some ⟨0,2,[]⟩))∧Grow S w (S.addRow (.map (some w.heap.size)) 2) w':=by
 have hsame:∀k,k<w.heap.size→w'.heap[k]?=w.heap[k]?:=fun k hk=>by rw[hw,Array.getElem?_push,if_neg (by omega)]
 have hnew:w'.heap[w.heap.size]?=some (.map #[] 0):=by rw[hw];simp
 have hsz:w'.heap.size=w.heap.size+1:=by rw[hw];simp
 have hle:=S.le_addRow (.map (some w.heap.size)) 2;have hkept:fI S w w':=fun k hk=>hsame k (hS.fz_lt k (hS.ro_fz k hk))
 have hlocN:(S.addRow (.map (some w.heap.size)) 2).loc S.N=.map (some w.heap.size):=by simp[Sg.addRow]
 have hold:∀k r,k≠S.N→bG H S.N (some ⟨0,2,[]⟩) k=some r→H k=some r:=fun k r hk h=>by rwa [aK _ _ _ _ hk]at h
 refine⟨⟨hS.ro_fz,fun k hk=>by have:=hS.fz_lt k hk;omega,?_,?_,?_,hS.tabs.keep hle hkept⟩,⟨hle,fun _ h=>h,hos,htape,hout,by omega,fun k hk=>hsame k (hS.fz_lt k hk),fun _ h=>.inl h⟩⟩
 ·intro k r hk;by_cases e0:k=S.N
  ·subst e0;rw[nB]at hk;injection hk with hk;subst hk;exact⟨Nat.lt_succ_self _,by simp[Sg.addRow],by simp,by simp,.inr ⟨w.heap.size,[],hlocN,hnew,by simp[hO],rfl⟩⟩
  ·have hk':=hold k r e0 hk;exact(hS.rows k r hk').keep hle hkept fun g hg=>hsame g ((hS.rows k r hk').block_lt hg)
 ·intro k r hk g hg;by_cases e0:k=S.N
  ·subst e0;rw[hlocN]at hg;simp only[blk,Option.some.injEq]at hg;subst hg;exact fun h=>Nat.lt_irrefl _ (hS.fz_lt _ h)
  ·have hk':=hold k r e0 hk;rw[hle.loc k (hS.rows k r hk').lt]at hg;exact hS.free k r hk' g hg
 ·intro k k' r r' hk hk' hne g hg hg';by_cases e0:k=S.N
  ·subst e0;rw[hlocN]at hg;simp only[blk,Option.some.injEq]at hg;subst hg;have hk2:=hold k' r' (Ne.symm hne) hk';rw[hle.loc k' (hS.rows k' r' hk2).lt]at hg';exact Nat.lt_irrefl _ ((hS.rows k' r' hk2).block_lt hg')
  ·have hk2:=hold k r e0 hk;rw[hle.loc k (hS.rows k r hk2).lt]at hg;by_cases e1:k'=S.N
   ·subst e1;rw[hlocN]at hg';simp only[blk,Option.some.injEq]at hg';subst hg';exact Nat.lt_irrefl _ ((hS.rows k r hk2).block_lt hg)
   ·have hk3:=hold k' r' e1 hk';rw[hle.loc k' (hS.rows k' r' hk3).lt]at hg';exact hS.disj k k' r r' hk2 hk3 hne g hg hg'
theorem St.setMap(hS:St S w H){k g:Nat}{r:Row}(hk:H k=some r)(hl:S.loc k=.map (some g)){ms:List MapEntry}{es:List (List AV)}(he:hO S w 0 es ms)(h2:r.sz=2)(hlt:g<w.heap.size):
  St S { w with heap:=w.heap.setIfInBounds g (.map ms.toArray ms.length) } (bG H k (some { r with es:=es }))∧Grow S w S { w with heap:=w.heap.setIfInBounds g (.map ms.toArray ms.length) }:=by
 have hR:=hS.rows k r hk;have hgf:¬S.fz g:=hS.free k r hk g (by rw[hl];rfl);have hsame:∀j,j≠g→(w.heap.setIfInBounds g (.map ms.toArray ms.length))[j]?=w.heap[j]?:=fun j hj=>by rw[Array.getElem?_setIfInBounds,if_neg (Ne.symm hj)]
 have hget:(w.heap.setIfInBounds g (.map ms.toArray ms.length))[g]?=some (.map ms.toArray ms.length):=by rw[Array.getElem?_setIfInBounds];simp[hlt]
 have hkept:fI S w { w with heap:=w.heap.setIfInBounds g (.map ms.toArray ms.length) }:=fun j hj=>hsame j (fun e=>hgf (e▸hS.ro_fz j hj))
 have p:∀j r',bG H k (some { r with es:=es }) j=some r'→∃r'',H j=some r'':=fun j r' hj=>by
  by_cases e:j=k
  ·subst e;exact⟨r,hk⟩
  ·rw[aK _ _ _ _ e]at hj;exact⟨_,hj⟩
 have elen:∀(i:Nat) (es:List (List AV)) (ms:List MapEntry),hO S w i es ms→∀cs∈es,cs.length=2:=by
  intro i es;induction es generalizing i with
  | nil=>simp
  | cons c es ih=>
   intro ms h cs hcs;simp only[hO]at h;obtain⟨m,t,rfl,_,h4,h5⟩:=h;rcases List.mem_cons.1 hcs with rfl|hcs
   ·have:=eL _ _ h4;simpa using this.symm
   ·exact ih (i+1) t h5 cs hcs
 refine⟨⟨hS.ro_fz,fun j hj=>by simpa using hS.fz_lt j hj,?_,?_,?_,hS.tabs.keep S.le_refl hkept⟩,⟨S.le_refl,fun _ h=>h,rfl,rfl,rfl,by simp,fun j hj=>hsame j (fun e=>hgf (e▸hj)),fun _ h=>.inl h⟩⟩
 ·intro j r' hj;by_cases e:j=k
  ·subst e;rw[nB]at hj;injection hj with hj;subst hj;exact⟨hR.lt,hR.sz,hR.pos,fun cs hcs=>(elen 0 es ms he cs hcs).trans h2.symm,.inr ⟨g,ms,hl,hget,yT S.le_refl hkept 0 _ _ he,h2⟩⟩
  ·rw[aK _ _ _ _ e]at hj;exact(hS.rows j r' hj).keep S.le_refl hkept fun g' hg'=>hsame g' (fun e'=>hS.disj j k r' r hj hk e g' hg' (by rw[hl,e'];rfl))
 ·intro j r' hj g' hg';obtain⟨r'',hj'⟩:=p j r' hj;exact hS.free j r'' hj' g' hg'
 ·intro j j' r1 r2 hj hj' hne' g' hg' hg2;obtain⟨q1,hq1⟩:=p j r1 hj;obtain⟨q2,hq2⟩:=p j' r2 hj';exact hS.disj j j' q1 q2 hq1 hq2 hne' g' hg' hg2
theorem St.nilRow(hS:St S w H)(e:TypeId){sz:Nat}(hpos:0<sz):
  St (S.addRow (.slice none 0 0) sz) w (bG H S.N (some ⟨e,sz,[]⟩))∧Grow S w (S.addRow (.slice none 0 0) sz) w:=by
 have hle:=S.le_addRow (.slice none 0 0) sz;have hlocN:(S.addRow (.slice none 0 0) sz).loc S.N=.slice none 0 0:=by simp[Sg.addRow]
 have hold:∀k r,k≠S.N→bG H S.N (some ⟨e,sz,[]⟩) k=some r→H k=some r:=fun k r hk h=>by rwa [aK _ _ _ _ hk]at h
 refine⟨⟨hS.ro_fz,hS.fz_lt,?_,?_,?_,hS.tabs.keep hle (fI.refl S w)⟩,⟨hle,fun _ h=>h,rfl,rfl,rfl,Nat.le_refl _,fun _ _=>rfl,fun _ h=>.inl h⟩⟩
 ·intro k r hk;by_cases e0:k=S.N
  ·subst e0;rw[nB]at hk;injection hk with hk;subst hk;refine⟨Nat.lt_succ_self _,by simp[Sg.addRow],hpos,by simp,.inl ⟨[],⟨by simp,.inl ⟨hlocN,rfl⟩⟩,by simp[aV],by simp⟩⟩
  ·have hk':=hold k r e0 hk;exact(hS.rows k r hk').keep hle (fI.refl S w) fun _ _=>rfl
 ·intro k r hk g hg;by_cases e0:k=S.N
  ·subst e0;rw[hlocN]at hg;simp[blk]at hg
  ·have hk':=hold k r e0 hk;rw[hle.loc k (hS.rows k r hk').lt]at hg;exact hS.free k r hk' g hg
 ·intro k k' r r' hk hk' hne g hg hg';by_cases e0:k=S.N
  ·subst e0;rw[hlocN]at hg;simp[blk]at hg
  ·have hk2:=hold k r e0 hk;rw[hle.loc k (hS.rows k r hk2).lt]at hg;by_cases e1:k'=S.N
   ·subst e1;rw[hlocN]at hg';simp[blk]at hg'
   ·have hk3:=hold k' r' e1 hk';rw[hle.loc k' (hS.rows k' r' hk3).lt]at hg';exact hS.disj k k' r r' hk2 hk3 hne g hg hg'
def Sg.addRo(S:Sg)(g:Nat):Sg:={ S with ro:=fun k=>S.ro k∨k=g,fz:=fun k=>S.fz k∨k=g }
theorem Sg.le_addRo(S:Sg)(g:Nat):S.le (S.addRo g):=⟨fun _ h=>.inl h,Nat.le_refl _,fun _ _=>rfl,fun _ _=>rfl⟩
theorem St.newRo(hS:St S w H){o:Obj}{w':World}(hw:w'.heap=w.heap.push o)(hos:w'.os=w.os)(htape:w'.tape=w.tape)(hout:w'.output=w.output):
  St (S.addRo w.heap.size) w' H∧Grow S w (S.addRo w.heap.size) w':=by
 have hsame:∀k,k<w.heap.size→w'.heap[k]?=w.heap[k]?:=fun k hk=>by rw[hw,Array.getElem?_push,if_neg (by omega)]
 have hsz:w'.heap.size=w.heap.size+1:=by rw[hw];simp
 have hle:=S.le_addRo w.heap.size;have hkept:fI S w w':=fun k hk=>hsame k (hS.fz_lt k (hS.ro_fz k hk))
 refine⟨⟨fun k hk=>hk.imp (hS.ro_fz k) id,fun k hk=>?_,fun k r hk=>(hS.rows k r hk).keep hle hkept fun g hg=>hsame g ((hS.rows k r hk).block_lt hg),fun k r hk g hg hf=>?_,hS.disj,hS.tabs.keep hle hkept⟩,
  ⟨hle,fun _ h=>.inl h,hos,htape,hout,by omega,fun k hk=>hsame k (hS.fz_lt k hk),fun k hk=>hk.imp id (fun e hf=>by have:=hS.fz_lt k hf;omega)⟩⟩
 ·rcases hk with hk|hk
  ·have:=hS.fz_lt k hk;omega
  ·omega
 ·rcases hf with hf|hf
  ·exact hS.free k r hk g hg hf
  ·have:=(hS.rows k r hk).block_lt hg;omega
theorem RowOK.open{k:Nat}{r:Row}(h:RowOK S w k r){ad0:Option Addr}{n0 c0:Nat}(hs0:S.loc k=.slice ad0 n0 c0)(hne:r.es≠[]):∃g cap cur,S.loc k=.slice (some ⟨g,0,none⟩) r.es.length cap∧w.heap[g]?=some (.cells cur r.e (0,0))∧r.es.length≤cap∧cap≤maxLen∧cur.size=cap*r.sz ∧
  aV S w r.es.flatten (cur.toList.take (r.es.length*r.sz))∧∀u∈cur.toList.take (r.es.length*r.sz),u.oneCell'=true:=by
 obtain⟨xs,ho,hr,h1⟩:=h.sl hs0;rcases ho.2 with⟨_,hn⟩|⟨g,cap,cur,hv,_,h2,h3,h4,h5,h6⟩
 ·exact absurd (List.eq_nil_of_length_eq_zero hn) hne
 ·subst h6;exact⟨g,cap,cur,hv,h2,h3,h4,h5,hr,h1⟩
theorem sJ:∀(es:List (List AV)) (i:Nat) (cs:List AV) {sz:Nat},(∀c∈es,c.length=sz)→i<es.length→cs.length=sz →
  (es.set i cs).flatten=es.flatten.take (i*sz)++cs++es.flatten.drop (i*sz+sz)
 | [],_,_,_,_,h,_=>by simp at h
 | x::r,0,cs,sz,hl,_,hc=>by have hx:=hl x (by simp);simp[←hx]
 | x::r,i+1,cs,sz,hl,hi,hc=>by
  have hx:=hl x (by simp);have ih:=sJ r i cs (fun c hc=>hl c (by simp[hc])) (by simpa using hi) hc;simp only[List.set_cons_succ,List.flatten_cons,ih];have e1:(i+1)*sz=x.length+i*sz:=by rw[hx,Nat.add_mul];omega
  rw[e1,Nat.add_assoc,List.take_append,List.drop_append];simp[List.take_of_length_le,List.drop_eq_nil_of_le,Nat.add_assoc]
theorem St.store(hS:St S w H){k:Nat}{r:Row}(hk:H k=some r){i f:Nat}{cs:List AV}{l:List Value}(hi:i<r.es.length)(hf:f+cs.length≤r.sz){ad0:Option Addr}{n0 c0:Nat}(hs0:S.loc k=.slice ad0 n0 c0)
   (hr:aV S w cs l) (h1:∀u∈l,u.oneCell'=true):
   ∃g n c w',S.loc k=.slice (some ⟨g,0,none⟩) n c∧(∀P:Program,(storeCells ⟨g,i*r.sz+f,none⟩ l).run P w=.ok () w') ∧
     St S w' (bG H k (some { r with es:=r.es.set i (oO (r.es.getD i []) f cs) }))∧Grow S w S w':=by
 have hR:=hS.rows k r hk;have hne:r.es≠[]:=fun e=>by rw[e]at hi;simp at hi
 obtain⟨g,cap,cur,hloc,hg,hnc,hcm,hcs,hrep,hone⟩:=hR.open hs0 hne;have hll:=eL _ _ hr;have hmul:(i+1)*r.sz≤r.es.length*r.sz:=Nat.mul_le_mul_right _ hi;have hmul2:r.es.length*r.sz≤cap*r.sz:=Nat.mul_le_mul_right _ hnc;rw[Nat.add_mul,Nat.one_mul]at hmul;have hst:∀P:Program,_:=fun P=>run_storeCells_at (P:=P) g (i*r.sz+f) r.e l 0 cur w hg (by rw[hll,hcs];omega) h1
 simp only[Nat.add_zero]at hst;refine⟨g,_,cap,_,hloc,hst,?_,?_⟩
 · have hsame:∀j,j≠g→(w.setRow g (List.take (i*r.sz+f) cur.toList++l++List.drop (i*r.sz+f+l.length) cur.toList).toArray).heap[j]?=w.heap[j]?:=fun j hj=>setRow_other w g j _ hj
   have hgf:¬S.fz g:=hS.free k r hk g (by rw[hloc];rfl);have hkept:fI S w (w.setRow g (List.take (i*r.sz+f) cur.toList++l++List.drop (i*r.sz+f+l.length) cur.toList).toArray):=fun j hj=>hsame j (fun e=>hgf (e▸hS.ro_fz j hj))
   have hget:(r.es.getD i []).length=r.sz:=by simp only[List.getD,List.getElem?_eq_getElem hi,Option.getD_some];exact hR.len _ (List.getElem_mem hi)
   have hset:(oO (r.es.getD i []) f cs).length=r.sz:=by simp only[oO,List.length_append,List.length_take,List.length_drop,hget];omega
   have e2 : List.take (r.es.length * r.sz) (List.take (i * r.sz + f) cur.toList ++ l ++ List.drop (i * r.sz + f + l.length) cur.toList) =
       (cur.toList.take (r.es.length*r.sz)).take (i*r.sz+f)++l++(cur.toList.take (r.es.length*r.sz)).drop (i*r.sz+f+l.length):=by
     rw[List.take_take,Nat.min_eq_left (by omega),List.drop_take];rw[List.take_append,List.take_append];simp only[List.length_append,List.length_take,Array.length_toList];rw[Nat.min_eq_left (by omega:i*r.sz+f≤cur.size)];rw[List.take_of_length_le (l:=List.take (i*r.sz+f) cur.toList) (by simp;omega),List.take_of_length_le (l:=l) (by omega)]
   refine⟨hS.ro_fz,fun j hj=>by simpa using hS.fz_lt j hj,?_,?_,?_,hS.tabs.keep S.le_refl hkept⟩
   · intro j r' hj;by_cases e:j=k
     · subst e;rw[nB]at hj;injection hj with hj;subst hj;refine⟨hR.lt,hR.sz,hR.pos,?_,.inl ?_⟩
       · intro c hc;rcases List.mem_or_eq_of_mem_set hc with hc|rfl
         · exact hR.len c hc
         · exact hset
       · refine⟨(List.take (i*r.sz+f) cur.toList++l++List.drop (i*r.sz+f+l.length) cur.toList).take (r.es.length*r.sz),⟨?_,.inr ⟨g,cap,_,by simpa using hloc,Nat.zero_le _,setRow_heap w g cur _ _ _ hg,by simpa using hnc,hcm,?_,by simp⟩⟩,?_,?_⟩
         · simp only[List.length_set,List.length_take,List.length_append,List.length_drop,Array.length_toList];omega
         · simp only[List.size_toArray,List.length_append,List.length_take,List.length_drop,Array.length_toList];omega
         · have hx:=(dN (S.le_refl) hkept _ _ hrep);have hy:=(dN (S.le_refl) hkept _ _ hr);have e1:(r.es.set i (oO (r.es.getD i []) f cs)).flatten=r.es.flatten.take (i*r.sz+f)++cs++r.es.flatten.drop (i*r.sz+f+l.length):=by
             rw[sJ r.es i _ hR.len hi hset];have hflat:r.es.flatten.length=r.es.length*r.sz:=gZ _ hR.len;have hmid:r.es.getD i []=(r.es.flatten.drop (i*r.sz)).take r.sz:=by
               have h0:=sJ r.es i (r.es.getD i []) hR.len hi hget;have hs:r.es.set i (r.es.getD i [])=r.es:=by simp only[List.getD,List.getElem?_eq_getElem hi,Option.getD_some];exact List.set_getElem_self hi
               rw[hs]at h0;have h3:(r.es.flatten.drop (i*r.sz)).take r.sz=((r.es.flatten.take (i*r.sz)++r.es.getD i []++r.es.flatten.drop (i*r.sz+r.sz)).drop (i*r.sz)).take r.sz:=by rw[←h0]
               rw[h3,List.append_assoc,List.drop_append_of_le_length (by rw[List.length_take];omega)];rw[List.drop_eq_nil_of_le (by rw[List.length_take];omega),List.nil_append,List.take_append_of_le_length (by omega),List.take_of_length_le (by omega)]
             rw[hmid,oO];have a1:List.take (i*r.sz+f) r.es.flatten=r.es.flatten.take (i*r.sz)++((r.es.flatten.drop (i*r.sz)).take r.sz).take f:=by rw[List.take_take,Nat.min_eq_left (by omega),List.take_add]
             have a2:r.es.flatten.drop (i*r.sz+f+l.length)=((r.es.flatten.drop (i*r.sz)).take r.sz).drop (f+cs.length)++r.es.flatten.drop (i*r.sz+r.sz):=by
               rw[List.drop_take,List.drop_drop,←hll,←Nat.add_assoc];have:List.drop (i*r.sz+r.sz) r.es.flatten=(List.drop (i*r.sz+f+l.length) r.es.flatten).drop (r.sz-(f+l.length)):=by rw[List.drop_drop];congr 1;omega
               rw[this,List.take_append_drop]
             rw[a1,a2];simp only[List.append_assoc]
           rw[e1];rw[e2];exact dA _ _ _ _ (dA _ _ _ _ (nC _ _ _ hx) hy) (nG _ _ _ hx)
         · intro u hu;rw[e2]at hu;simp only[List.mem_append]at hu;rcases hu with(hu|hu)|hu
           · exact hone u (List.mem_of_mem_take hu)
           · exact h1 u hu
           · exact hone u (List.mem_of_mem_drop hu)
     · rw[aK _ _ _ _ e]at hj;exact(hS.rows j r' hj).keep S.le_refl hkept fun g' hg'=>hsame g' (fun e'=>hS.disj j k r' r hj hk e g' hg' (by rw[hloc,e'];rfl))
   · intro j r' hj g' hg';by_cases e:j=k
     · subst e;exact hS.free j r hk g' hg'
     · rw[aK _ _ _ _ e]at hj;exact hS.free j r' hj g' hg'
   · intro j j' r1 r2 hj hj' hne' g' hg' hg2;have p:∀j r',bG H k (some { r with es:=r.es.set i (oO (r.es.getD i []) f cs) }) j=some r'→∃r'',H j=some r'':=fun j r' hj=>by
       by_cases e:j=k
       · subst e;exact⟨r,hk⟩
       · rw[aK _ _ _ _ e]at hj;exact⟨_,hj⟩
     obtain⟨q1,hq1⟩:=p j r1 hj;obtain⟨q2,hq2⟩:=p j' r2 hj';exact hS.disj j j' q1 q2 hq1 hq2 hne' g' hg' hg2
 · refine⟨S.le_refl,fun _ h=>h,rfl,rfl,rfl,by simp,fun j hj=>setRow_other w g j _ (fun e=>hS.free k r hk g (by rw[hloc];rfl) (e▸hj)),fun _ h=>.inl h⟩
end
end Go.Aw
end
section
namespace Go.Aw
open Go.RowKit
section
variable{P:Program}{S S':Sg}{w w':World}{H H':aC}
def oC(S:Sg)(w:World)(u:Value)(news:List (List AV)):Prop:=
 ∃ad c l,u=.slice ad news.length c∧aV S w news.flatten l∧(∀x∈l,x.oneCell'=true) ∧
   (news=[]∨∃b o,ad=some ⟨b,o,none⟩∧∀j x,l[j]?=some x→w.cell? ⟨b,o+j,none⟩=some x)
theorem yP{es:List (List AV)}{u:Value}(h:rep S w (.sl es) u):oC S w u es:=by
 simp only[rep]at h;obtain⟨ad,n,c,rfl,rfl,_,_,h4⟩:=h;rcases h4 with rfl|⟨b,o,sz,rfl,hb,hs,hels⟩
 ·exact⟨ad,c,[],rfl,by simp[aV],by simp,.inl rfl⟩
 ·obtain⟨l,e1,e2,e3,e4⟩:=jG _ _ (qW es o hels);exact⟨_,c,l,rfl,e2,e3,.inr ⟨b,o,rfl,e4⟩⟩
theorem yV{k:Nat}{r:Row}(h:RowOK S w k r){a0:Option Addr}{n0 c0:Nat}(hs:S.loc k=.slice a0 n0 c0):oC S w (S.loc k) r.es:=by
 obtain⟨xs,ho,hr,h1⟩:=h.sl hs;rcases ho.2 with⟨hv,hn⟩|⟨g,cap,cur,hv,_⟩
 ·have he:=List.eq_nil_of_length_eq_zero hn;have hx:xs=[]:=List.eq_nil_of_length_eq_zero (by rw[ho.1,hn];simp);exact⟨none,0,xs,by rw[hv,hn],hr,h1,.inl he⟩
 ·refine⟨some ⟨g,0,none⟩,cap,xs,hv,hr,h1,.inr ⟨g,0,rfl,fun j x hj=>?_⟩⟩;have:=ho.cells (g:=g) (by rw[hv];rfl) j x hj
  rwa [Addr.add_lit]at this
theorem sD{k a b:Nat}{r:Row}{u:Value}(hk:RowOK S w k r)(hu:rep S w (.oz k a b) u):oC S w u ((r.es.take b).drop a)∧b≤r.es.length∧a≤b:=by
 simp only[rep]at hu;obtain⟨_,ad,n,c,ad',cc,hloc,rfl,hab,hbn,hpos,_,hnc0,_,_⟩:=hu;obtain⟨xs,ho,hr,h1⟩:=hk.sl hloc;have hn:n=r.es.length:=by
  rcases ho.2 with⟨hv,hn⟩|⟨g,cap,cur,hv,_⟩
  ·rw[hloc]at hv;injection hv with _ h2 _;omega
  ·rw[hloc]at hv;injection hv
 subst hn;refine⟨?_,hbn,hab⟩;have hlen:((r.es.take b).drop a).length=b-a:=by simp;omega
 rcases Nat.lt_or_ge a b with hlt|hge
 ·obtain⟨g,rfl,rfl⟩:=hpos (by omega);have hne:r.es≠[]:=fun e=>by rw[e]at hbn;simp at hbn;omega
  obtain⟨g',n',c',hl',hels,_⟩:=hk.els hloc hne;rw[hloc]at hl';injection hl' with e1 _ _;injection e1 with e1;injection e1 with e1;subst e1;have h2:=vF _ 0 a (rD r.es 0 b hels);rw[Nat.zero_add,hk.sz]at h2;obtain⟨l,q1,q2,q3,q4⟩:=jG _ _ (qW _ _ h2);exact⟨_,cc,l,by rw[hlen],q2,q3,.inr ⟨g,a*S.sz k,rfl,q4⟩⟩
 ·have he:(r.es.take b).drop a=[]:=List.eq_nil_of_length_eq_zero (by omega);exact⟨ad',cc,[],by rw[hlen],by rw[he];simp[aV],by simp,.inl he⟩
theorem rA:∀(es:List (List AV)) (a:Nat) {sz:Nat},(∀c∈es,c.length=sz)→(es.take a).flatten=es.flatten.take (a*sz)
 | [],_,_,_=>by simp
 | x::r,0,_,_=>by simp
 | x::r,a+1,sz,hl=>by
  have hx:=hl x (by simp);rw[List.take_succ_cons,List.flatten_cons,List.flatten_cons,rA r a (fun c hc=>hl c (by simp[hc])),Nat.add_mul,Nat.one_mul,List.take_append,hx];rw[List.take_of_length_le (l:=x) (by omega)]
  congr 2
  omega
theorem qU:∀(es:List (List AV)) (a:Nat) {sz:Nat},(∀c∈es,c.length=sz)→(es.drop a).flatten=es.flatten.drop (a*sz)
 | [],_,_,_=>by simp
 | x::r,0,_,_=>by simp
 | x::r,a+1,sz,hl=>by
  have hx:=hl x (by simp);rw[List.drop_succ_cons,List.flatten_cons,qU r a (fun c hc=>hl c (by simp[hc])),Nat.add_mul,Nat.one_mul,List.drop_append,hx];rw[List.drop_eq_nil_of_le (as:=x) (by omega),List.nil_append]
  congr 1
  omega
theorem St.storeE(hS:St S w H){k:Nat}{r:Row}(hk:H k=some r){a:Nat}{news:List (List AV)}{l:List Value}(hlen:∀c∈news,c.length=r.sz)(ha:a+news.length≤r.es.length)(hne0:r.es≠[]){ad0:Option Addr}{n0 c0:Nat}(hs0:S.loc k=.slice ad0 n0 c0)
   (hr:aV S w news.flatten l) (h1:∀u∈l,u.oneCell'=true):
   ∃g n c w',S.loc k=.slice (some ⟨g,0,none⟩) n c∧(∀P:Program,(storeCells ⟨g,a*r.sz,none⟩ l).run P w=.ok () w') ∧
     St S w' (bG H k (some { r with es:=r.es.take a++news++r.es.drop (a+news.length) }))∧Grow S w S w':=by
 have hR:=hS.rows k r hk;obtain⟨g,cap,cur,hloc,hg,hnc,hcm,hcs,hrep,hone⟩:=hR.open hs0 hne0;have hll:l.length=news.length*r.sz:=by rw[eL _ _ hr,gZ news hlen]
 have hmul:(a+news.length)*r.sz≤r.es.length*r.sz:=Nat.mul_le_mul_right _ ha;have hmul2:r.es.length*r.sz≤cap*r.sz:=Nat.mul_le_mul_right _ hnc;rw[Nat.add_mul]at hmul;have hst:∀P:Program,_:=fun P=>run_storeCells_at (P:=P) g (a*r.sz) r.e l 0 cur w hg (by rw[hll,hcs];omega) h1
 simp only[Nat.add_zero]at hst;refine⟨g,_,cap,_,hloc,hst,?_,?_⟩
 · have hsame:∀j,j≠g→(w.setRow g (List.take (a*r.sz) cur.toList++l++List.drop (a*r.sz+l.length) cur.toList).toArray).heap[j]?=w.heap[j]?:=fun j hj=>setRow_other w g j _ hj
   have hgf:¬S.fz g:=hS.free k r hk g (by rw[hloc];rfl);have hkept:fI S w (w.setRow g (List.take (a*r.sz) cur.toList++l++List.drop (a*r.sz+l.length) cur.toList).toArray):=fun j hj=>hsame j (fun e=>hgf (e▸hS.ro_fz j hj))
   have hnl:(r.es.take a++news++r.es.drop (a+news.length)).length=r.es.length:=by simp;omega
   have e2 : List.take (r.es.length * r.sz) (List.take (a * r.sz) cur.toList ++ l ++ List.drop (a * r.sz + l.length) cur.toList) =
       (cur.toList.take (r.es.length*r.sz)).take (a*r.sz)++l++(cur.toList.take (r.es.length*r.sz)).drop (a*r.sz+l.length):=by
     rw[List.take_take,Nat.min_eq_left (by omega),List.drop_take];rw[List.take_append,List.take_append];simp only[List.length_append,List.length_take,Array.length_toList];rw[Nat.min_eq_left (by omega:a*r.sz≤cur.size)];rw[List.take_of_length_le (l:=List.take (a*r.sz) cur.toList) (by simp;omega),List.take_of_length_le (l:=l) (by omega)]
   refine⟨hS.ro_fz,fun j hj=>by simpa using hS.fz_lt j hj,?_,?_,?_,hS.tabs.keep S.le_refl hkept⟩
   · intro j r' hj;by_cases e:j=k
     · subst e;rw[nB]at hj;injection hj with hj;subst hj;refine⟨hR.lt,hR.sz,hR.pos,?_,.inl ?_⟩
       · intro c hc;rcases List.mem_append.1 hc with hc|hc
         · rcases List.mem_append.1 hc with hc|hc
           · exact hR.len c (List.mem_of_mem_take hc)
           · exact hlen c hc
         · exact hR.len c (List.mem_of_mem_drop hc)
       · refine⟨(List.take (a*r.sz) cur.toList++l++List.drop (a*r.sz+l.length) cur.toList).take (r.es.length*r.sz),⟨?_,.inr ⟨g,cap,_,by rw[hnl];exact hloc,Nat.zero_le _,setRow_heap w g cur _ _ _ hg,by rw[hnl];exact hnc,hcm,?_,by rw[hnl]⟩⟩,?_,?_⟩
         · rw[hnl];simp only[List.length_take,List.length_append,List.length_drop,Array.length_toList];omega
         · simp only[List.size_toArray,List.length_append,List.length_take,List.length_drop,Array.length_toList];omega
         · have hx:=(dN (S.le_refl) hkept _ _ hrep);have hy:=(dN (S.le_refl) hkept _ _ hr);have e1:(r.es.take a++news++r.es.drop (a+news.length)).flatten=r.es.flatten.take (a*r.sz)++news.flatten++r.es.flatten.drop (a*r.sz+l.length):=by rw[List.flatten_append,List.flatten_append,rA _ _ hR.len,qU _ _ hR.len,Nat.add_mul,hll]
           rw[e1,e2];exact dA _ _ _ _ (dA _ _ _ _ (nC _ _ _ hx) hy) (nG _ _ _ hx)
         · intro u hu;rw[e2]at hu;simp only[List.mem_append]at hu;rcases hu with(hu|hu)|hu
           · exact hone u (List.mem_of_mem_take hu)
           · exact h1 u hu
           · exact hone u (List.mem_of_mem_drop hu)
     · rw[aK _ _ _ _ e]at hj;exact(hS.rows j r' hj).keep S.le_refl hkept fun g' hg'=>hsame g' (fun e'=>hS.disj j k r' r hj hk e g' hg' (by rw[hloc,e'];rfl))
   · intro j r' hj g' hg';by_cases e:j=k
     · subst e;exact hS.free j r hk g' hg'
     · rw[aK _ _ _ _ e]at hj;exact hS.free j r' hj g' hg'
   · intro j j' r1 r2 hj hj' hne' g' hg' hg2;have p:∀j r',bG H k (some { r with es:=r.es.take a++news++r.es.drop (a+news.length) }) j=some r'→∃r'',H j=some r'':=fun j r' hj=>by
       by_cases e:j=k
       · subst e;exact⟨r,hk⟩
       · rw[aK _ _ _ _ e]at hj;exact⟨_,hj⟩
     obtain⟨q1,hq1⟩:=p j r1 hj;obtain⟨q2,hq2⟩:=p j' r2 hj';exact hS.disj j j' q1 q2 hq1 hq2 hne' g' hg' hg2
 · refine⟨S.le_refl,fun _ h=>h,rfl,rfl,rfl,by simp,fun j hj=>setRow_other w g j _ (fun e=>hS.free k r hk g (by rw[hloc];rfl) (e▸hj)),fun _ h=>.inl h⟩
theorem Lg{k:Nat}{r:Row}(hk:H k=some r):bG H k (some r)=H:=by
 funext j;by_cases e:j=k
 ·subst e;rw[aD,hk]
 ·rw[aK _ _ _ _ e]
theorem St.copy(hS:St S w H){k:Nat}{r:Row}(hk:H k=some r){t e sz bytes:Nat}{t' ty:TypeId}(he:cM P t=some (e,sz,bytes))(hsz:r.sz=sz){a n:Nat}(han:a+n≤r.es.length){x u:Value}{news:List (List AV)}(hu:oC S w u news)(hlen:dF sz news)
  (hx:∃ad cc,x=.slice ad n cc∧(0<n→∃g n' c',S.loc k=.slice (some ⟨g,0,none⟩) n' c'∧ad=some ⟨g,a*r.sz,none⟩)):
  ∃w',(Builtin.copy_ #[t,t'] ty #[x,u]).run P w=.ok (goInt (min news.length n:Nat)) w'∧St S w' (bG H k (some { r with es:=r.es.take a++news.take (min news.length n)++r.es.drop (a+min news.length n) }))∧Grow S w S w':=by
 obtain⟨inf,z,hut,hi,hsz',hby,hpos,hbpos,hz,hzs⟩:=eG he;obtain⟨ad,cc,rfl,hxp⟩:=hx;obtain⟨sa,sc,l,rfl,hl,hl1,hsrc⟩:=hu;have hlen':=fJ.1 hlen;rcases Nat.eq_zero_or_pos (min news.length n)with h0|h0
 ·refine⟨w,?_,?_,Grow.refl S w⟩
  ·have hm0:Nat.min news.length n=0:=h0;have hlz:∀a:Addr,(loadCells a 0).run P w=.ok #[] w:=fun a=>by simpa using run_loadCells_list (P:=P) w a [] (by simp)
   rw[h0];cases ad <;> cases sa <;> simp[Builtin.copy_,run_underlying hut,Builtin.lenOf,Builtin.firstCells,sizeOf,typeInfo,hi,hm0,hlz,storeCells]
  ·rw[h0];have:({ r with es:=r.es.take a++news.take 0++r.es.drop (a+0) }:Row)=r:=by simp
   rw[this,Lg hk];exact hS
 ·have hn0:0<n:=by omega
  obtain⟨g,n',c',hloc,rfl⟩:=hxp hn0;have hne0:r.es≠[]:=fun e=>by rw[e]at han;simp at han;omega
  have hm:(news.take (min news.length n)).length=min news.length n:=by simp
  have hfl:(news.take (min news.length n)).flatten=news.flatten.take (min news.length n*sz):=rA _ _ hlen';have hr':aV S w (news.take (min news.length n)).flatten (l.take (min news.length n*sz)):=by rw[hfl];exact nC _ _ _ hl
  obtain⟨g',n2,c2,w',hloc',hst,q1,q2⟩:=hS.storeE hk (a:=a) (news:=news.take (min news.length n)) (l:=l.take (min news.length n*sz)) (fun c hc=>by rw[hsz];exact hlen' c (List.mem_of_mem_take hc)) (by rw[hm];omega) hne0 hloc hr' (fun u hu=>hl1 u (List.mem_of_mem_take hu));rw[hloc]at hloc';injection hloc' with i1 _ _;injection i1 with i1;injection i1 with i1;subst i1;rw[hm]at q1;refine⟨w',?_,q1,q2⟩;rcases hsrc with hsrc|⟨b,o,rfl,hcells⟩
  ·rw[hsrc]at h0;simp at h0
  ·have hll:l.length=news.length*sz:=by rw[eL _ _ hl,gZ news hlen']
   have hlt:(l.take (min news.length n*sz)).length=min news.length n*sz:=by rw[List.length_take,hll];exact Nat.min_eq_left (Nat.mul_le_mul_right _ (Nat.min_le_left _ _))
   have hld:=run_loadCells_list (P:=P) w ⟨b,o,none⟩ (l.take (min news.length n*sz)) (fun j v hj=>by
    rw[Addr.add_lit];refine hcells j v ?_;rw[List.getElem?_take]at hj;split at hj
    ·exact hj
    ·simp at hj)
   rw[hlt]at hld;have hmin:Nat.min news.length n=min news.length n:=rfl;simp[Builtin.copy_,run_underlying hut,Builtin.lenOf,Builtin.firstCells,sizeOf,typeInfo,hi,hsz',hmin,hld,hst P]
theorem sF(z:Array Value)(hz:0<z.size):∀m,(Builtin.zeroCells z m).toList=(List.replicate m z.toList).flatten
 | 0=>by simp[Builtin.zeroCells]
 | m+1=>by
  have ih:=sF z hz m;rw[show List.replicate (m+1) z.toList=List.replicate m z.toList++[z.toList]from List.replicate_succ',List.flatten_append,←ih];simp only[Builtin.zeroCells,Array.toList_map,Array.toList_range,Nat.add_mul,Nat.one_mul,List.flatten_cons,List.flatten_nil,List.append_nil];rw[List.range_add,List.map_append]
  congr 1
  apply List.ext_getElem
  ·simp
  ·intro i h1 h2;simp only[List.length_map,List.length_range]at h1;simp[Nat.add_comm (m*z.size),Nat.add_mul_mod_self_right,Nat.mod_eq_of_lt h1,h1]
theorem St.clear(hS:St S w H){k:Nat}{r:Row}(hk:H k=some r){t e sz bytes:Nat}{ty:TypeId}{zs:List AV}(he:cM P t=some (e,sz,bytes))(hzs:eC P e=some zs)(hsz:r.sz=sz){a n:Nat}(han:a+n≤r.es.length){x:Value}
  (hx:∃ad cc,x=.slice ad n cc∧(0<n→∃g n' c',S.loc k=.slice (some ⟨g,0,none⟩) n' c'∧ad=some ⟨g,a*r.sz,none⟩)):
  ∃w',(Builtin.clear_ #[t] ty #[x]).run P w=.ok (.tuple #[]) w'∧St S w' (bG H k (some { r with es:=r.es.take a++List.replicate n zs++r.es.drop (a+n) }))∧Grow S w S w':=by
 obtain⟨inf,z,hut,hi,hsz',hby,hpos,hbpos,hz,hzsz⟩:=eG he;obtain⟨i',v,hi',hiz,rfl,hvs,hne,h1⟩:=jZ hzs;rw[hi]at hi';injection hi' with hi';subst hi';rw[hz]at hiz;injection hiz with hiz;subst hiz;obtain⟨ad,cc,rfl,hxp⟩:=hx;rcases Nat.eq_zero_or_pos n with h0|h0
 ·subst h0;refine⟨w,?_,?_,Grow.refl S w⟩
  ·cases ad <;> simp[Builtin.clear_,run_underlying hut]
  ·have:({ r with es:=r.es.take a++List.replicate 0 (z.cells.toList.map lU)++r.es.drop (a+0) }:Row)=r:=by simp
   rw[this,Lg hk];exact hS
 ·obtain⟨g,n',c',hloc,rfl⟩:=hxp h0;have hne0:r.es≠[]:=fun e=>by rw[e]at han;simp at han;omega
  have hrep:∀m,aV S w (List.replicate m (z.cells.toList.map lU)).flatten (List.replicate m z.cells.toList).flatten:=by
   intro m;induction m with
   | zero=>simp[aV]
   | succ m ih=>simp only[List.replicate_succ,List.flatten_cons];exact dA _ _ _ _ (jD _) ih
  obtain⟨g',n2,c2,w',hloc',hst,q1,q2⟩:=hS.storeE hk (a:=a) (news:=List.replicate n (z.cells.toList.map lU)) (l:=(List.replicate n z.cells.toList).flatten) (fun c hc=>by rw[List.eq_of_mem_replicate hc];simp;omega) (by rw[List.length_replicate];omega) hne0 hloc (hrep n) (fun u hu=>by obtain⟨l,hl,hu⟩:=List.mem_flatten.1 hu;rw[List.eq_of_mem_replicate hl]at hu;exact h1 u hu);rw[hloc]at hloc';injection hloc' with i1 _ _;injection i1 with i1;injection i1 with i1;subst i1;rw[List.length_replicate]at q1;refine⟨w',?_,q1,q2⟩;obtain⟨m,rfl⟩:∃m,n=m+1:=⟨n-1,by omega⟩;simp[Builtin.clear_,run_underlying hut,zeroValue,typeInfo,hi,hz,sF z.cells (by omega) (m+1),hst P]
theorem xH{t ty e:TypeId}{i:TypeInfo}{size n c:Nat}{v:Value}{xs:List Value}(ht:P.underlying t=some (.slice e))(hi:P.info? e=some i)(hown:w.ownsRow 0 e size v n xs):
  (Builtin.append_ #[t,t] ty #[v,.slice none 0 c]).run P w=.ok v w:=by
 rcases hown.2 with⟨rfl,rfl⟩|⟨g,cap,cur,rfl,_,_,hnc,_⟩
 ·simp[Builtin.append_,run_underlying ht,sizeOf,typeInfo,hi,Builtin.lenOf,Builtin.firstCells]
 ·simp[Builtin.append_,run_underlying ht,sizeOf,typeInfo,hi,Builtin.lenOf,Builtin.firstCells,hnc,storeCells]
theorem nU{t ty e:TypeId}{i:TypeInfo}{n c c2:Nat}{b ad:Option Addr}(ht:P.underlying t=some (.slice e))(hi:P.info? e=some i)(hnc:n≤c):
  (Builtin.append_ #[t,t] ty #[.slice b n c,.slice ad 0 c2]).run P w=.ok (.slice b n c) w:=by
 have hfc:(Builtin.firstCells i.size 0 (.slice ad 0 c2)).run P w=.ok #[] w:=by
  cases ad with
  | none=>rfl
  | some a=>exact run_firstCells_some (P:=P) w i.size 0 a 0 c2 [] (by simp) (by simp)
 cases b <;> simp[Builtin.append_,run_underlying ht,sizeOf,typeInfo,hi,Builtin.lenOf,hfc,hnc,storeCells]
theorem St.appendFin(hS:St S w H){k:Nat}{r:Row}(hk:H k=some r){xs l:List Value}{news:List (List AV)}(hr:aV S w r.es.flatten xs)(h1:∀x∈xs,x.oneCell'=true)(hpos:0<r.sz)
  (hlen':∀c∈news,c.length=r.sz) (hl:aV S w news.flatten l) (hl1:∀x∈l,x.oneCell'=true) {v':Value} {w':World}
  (q2:w'.ownsRow 0 r.e r.sz v' (r.es.length+news.length) (xs++l)) (q3:w.grownBy w' (blk (S.loc k))) (q4:blk v'=blk (S.loc k)∨blk v'=some w.heap.size):
  (∃a n c,v'=.slice a n c)∧St (S.addRow v' r.sz) w' (bG (bG H k none) S.N (some ⟨r.e,r.sz,r.es++news⟩))∧Grow S w (S.addRow v' r.sz) w':=by
 have hR:=hS.rows k r hk;have hfree:=hS.free k r hk;have hsame:∀j,S.fz j→w'.heap[j]?=w.heap[j]?:=fun j hj=>q3.block j (hS.fz_lt j hj) (fun e=>hfree j e.symm hj)
 have hkept:fI S w w':=hS.kept hsame;have hle:=S.le_addRow v' r.sz;have hlocN:(S.addRow v' r.sz).loc S.N=v':=by simp[Sg.addRow]
 have hnf:∀g,blk v'=some g→¬S.fz g:=fun g hg hf=>by
  rcases q4 with e|e
  ·exact hfree g (e▸hg) hf
  ·rw[e]at hg;injection hg with hg;subst hg;exact Nat.lt_irrefl _ (hS.fz_lt _ hf)
 have hold:∀j r',j≠S.N→bG (bG H k none) S.N (some ⟨r.e,r.sz,r.es++news⟩) j=some r'→j≠k∧H j=some r':=fun j r' hj h=>by
  rw[aK _ _ _ _ hj]at h;by_cases e:j=k
  ·subst e;rw[aD]at h;simp at h
  ·rw[aK _ _ _ _ e]at h;exact⟨e,h⟩
 have hblk:∀j r',j≠k→H j=some r'→∀g,blk (S.loc j)=some g→some g≠blk (S.loc k)∧g<w.heap.size:=fun j r' hj hj' g hg=>⟨fun e=>hS.disj j k r' r hj' hk hj g hg e.symm,(hS.rows j r' hj').block_lt hg⟩
 have hvN:∀j r',j≠k→H j=some r'→∀g,blk (S.loc j)=some g→blk v'≠some g:=fun j r' hj hj' g hg e=>by
  obtain⟨e1,e2⟩:=hblk j r' hj hj' g hg;rcases q4 with e'|e'
  ·exact e1 (by rw[←e',e])
  ·rw[e']at e;injection e with e;omega
 refine⟨?_,⟨hS.ro_fz,fun j hj=>Nat.lt_of_lt_of_le (hS.fz_lt j hj) q3.size,?_,?_,?_,hS.tabs.keep hle hkept⟩,⟨hle,fun _ h=>h,q3.os,q3.tape,q3.output,q3.size,hsame,fun _ h=>.inl h⟩⟩
 ·rcases q2.2 with⟨h,_⟩|⟨g,cap,cur,h,_⟩
  ·exact⟨_,_,_,h⟩
  ·exact⟨_,_,_,h⟩
 ·intro j r' hj;by_cases e:j=S.N
  ·subst e;rw[aD]at hj;injection hj with hj;subst hj;refine⟨Nat.lt_succ_self _,by simp[Sg.addRow],hpos,?_,.inl ⟨xs++l,?_,?_,?_⟩⟩
   ·intro cs hcs;rcases List.mem_append.1 hcs with hcs|hcs
    ·exact hR.len cs hcs
    ·exact hlen' cs hcs
   ·rw[hlocN,List.length_append];exact q2
   ·rw[List.flatten_append];exact dA _ _ _ _ (dN hle hkept _ _ hr) (dN hle hkept _ _ hl)
   ·intro x hx;rcases List.mem_append.1 hx with hx|hx
    ·exact h1 x hx
    ·exact hl1 x hx
  ·obtain⟨e1,e2⟩:=hold j r' e hj;exact(hS.rows j r' e2).keep hle hkept fun g hg=>q3.block g (hblk j r' e1 e2 g hg).2 (hblk j r' e1 e2 g hg).1
 ·intro j r' hj g hg;by_cases e:j=S.N
  ·subst e;rw[hlocN]at hg;exact hnf g hg
  ·obtain⟨e1,e2⟩:=hold j r' e hj;rw[hle.loc j (hS.rows j r' e2).lt]at hg;exact hS.free j r' e2 g hg
 ·intro j j' r1 r2 hj hj' hne g hg hg2;by_cases e:j=S.N
  ·subst e;rw[hlocN]at hg;obtain⟨e1,e2⟩:=hold j' r2 (Ne.symm hne) hj';rw[hle.loc j' (hS.rows j' r2 e2).lt]at hg2;exact hvN j' r2 e1 e2 g hg2 hg
  ·obtain⟨e1,e2⟩:=hold j r1 e hj;rw[hle.loc j (hS.rows j r1 e2).lt]at hg;by_cases e':j'=S.N
   ·subst e';rw[hlocN]at hg2;exact hvN j r1 e1 e2 g hg hg2
   ·obtain⟨e3,e4⟩:=hold j' r2 e' hj';rw[hle.loc j' (hS.rows j' r2 e4).lt]at hg2;exact hS.disj j j' r1 r2 e2 e4 hne g hg hg2
theorem St.append(hS:St S w H){k:Nat}{r:Row}(hk:H k=some r){ad0:Option Addr}{n0 c0:Nat}(hs0:S.loc k=.slice ad0 n0 c0){t ty:TypeId}{bytes:Nat}(he:cM P t=some (r.e,r.sz,bytes)){news:List (List AV)}{u:Value}(hu:oC S w u news)
   (hlen:dF r.sz news) (hb:(r.es.length+news.length)*bytes≤140737488355328):
   ∃v' w',(Builtin.append_ #[t,t] ty #[S.loc k,u]).run P w=.ok v' w'∧(∃a n c,v'=.slice a n c) ∧
     St (S.addRow v' r.sz) w' (bG (bG H k none) S.N (some ⟨r.e,r.sz,r.es++news⟩))∧Grow S w (S.addRow v' r.sz) w':=by
 have hR:=hS.rows k r hk;obtain⟨inf,z,hut,hi,hsz,hby,hpos,hbpos,hz,hzs⟩:=eG he;obtain⟨xs,ho,hr,h1⟩:=hR.sl hs0;obtain⟨ad,c,l,rfl,hl,hl1,hsrc⟩:=hu;have hlen':=fJ.1 hlen;have hll:l.length=news.length*r.sz:=by rw[eL _ _ hl,gZ news hlen']
 have hnm:r.es.length+news.length≤140737488355328:=Nat.le_trans (Nat.le_mul_of_pos_right _ hbpos) hb;have key : ∃ v' w', (Builtin.append_ #[t, t] ty #[S.loc k, .slice ad news.length c]).run P w = .ok v' w' ∧ w'.ownsRow 0 r.e r.sz v' (r.es.length + news.length) (xs ++ l) ∧ w.grownBy w' (blk (S.loc k)) ∧
     (blk v'=blk (S.loc k)∨blk v'=some w.heap.size):=by
   cases ad with
   | none=>
     have hn:news=[]:=by
       rcases hsrc with h|⟨b,o,h,_⟩
       · exact h
       · simp at h
     subst hn;have hl0:l=[]:=List.eq_nil_of_length_eq_zero (by rw[hll];simp);subst hl0;exact⟨S.loc k,w,xH hut hi ho,by simpa using ho,World.grownBy.refl w _,.inl rfl⟩
   | some a=>
     have hcells:∀j x,l[j]?=some x→w.cell? (a.add j)=some x:=by
       rcases hsrc with h|⟨b,o,h,hc⟩
       · subst h;have hl0:l=[]:=List.eq_nil_of_length_eq_zero (by rw[hll];simp);subst hl0;simp
       · injection h with h;subst h;intro j x hj;rw[Addr.add_lit];exact hc j x hj
     obtain⟨v',w',q1,q2,q3,_,q5⟩:=run_append_own_at (P:=P) w 0 t ty r.e inf z r.sz bytes hut hi hz hsz hby hzs hpos (S.loc k) r.es.length xs ho a news.length c l hll hcells hl1
       (by simp only[maxLen];omega) hb (Nat.zero_le _)
     have hbk:blk (S.loc k)=(S.loc k).ownBlock:=by rw[hs0];exact OG _ _ _
     have hbv:blk v'=v'.ownBlock:=by rcases q2.2 with⟨h,_⟩|⟨_,_,_,h,_⟩ <;> (rw[h];rfl)
     exact⟨v',w',q1,q2,by rw[hbk];exact q3,by rw[hbk,hbv];exact q5⟩
 obtain⟨v',w',q1,q2,q3,q4⟩:=key;exact⟨v',w',q1,hS.appendFin hk hr h1 hpos hlen' hl hl1 q2 q3 q4⟩
theorem OD(s:ByteArray):(HO s).length=s.size:=by rw[HO,List.length_map,Array.length_toList];rfl
theorem Of(s:ByteArray):∀c∈HO s,c.length=1:=by intro c hc;simp only[HO,List.mem_map]at hc;obtain⟨b,_,rfl⟩:=hc;rfl
theorem PV{S:Sg}{w:World}(s:ByteArray):aV S w (HO s).flatten (Lib.strCells s):=by
 unfold HO Lib.strCells;generalize s.data.toList=l;induction l with
 | nil=>simp[aV]
 | cons b l ih=>simp only[List.map_cons,List.flatten_cons,List.singleton_append,aV];exact⟨_,_,rfl,by simp only[rep],ih⟩
theorem Kw{e:TypeId}(h:Ly P e=true):∃i,P.info? e=some i∧i.zero=some (.int .u8 0)∧i.size=1∧i.bytes=1:=by
 unfold Ly at h;split at h
 ·rename_i i hi;split at h
  ·rename_i hz;simp only[Bool.and_eq_true,beq_iff_eq]at h;exact⟨i,hi,hz,h.1,h.2⟩
  ·simp at h
 ·simp at h
theorem wW(base:Nat)(t u ty e:TypeId)(i:TypeInfo)(ht:P.underlying t=some (.slice e))(hu:P.underlying u=some .string)(hi:P.info? e=some i)(hz:i.zero=some (.int .u8 0))
   (hsize:i.size=1) (hby:i.bytes=1)
   (v:Value) (n:Nat) (xs:List Value) (hown:w.ownsRow base e 1 v n xs) (s:ByteArray)
   (hbytes:n+s.size≤140737488355328) (hbase:base≤w.heap.size):
   ∃v' w',(Builtin.append_ #[t,u] ty #[v,.string s]).run P w=.ok v' w'∧w'.ownsRow base e 1 v' (n+s.size) (xs++Lib.strCells s)∧w.grownBy w' v.ownBlock∧(v'.ownBlock=v.ownBlock∨v'.ownBlock=some w.heap.size):=by
 have h63:n+s.size≤maxLen:=by simp only[maxLen];omega
 rcases hown.2 with⟨rfl,rfl⟩|⟨g,cap,cur,rfl,hbg,hg,hnc,hcm,hcs,htake⟩
 · obtain⟨v',w',h1,h2,h3,h4⟩:=Lib.run_append_own_string (P:=P) w w.heap.size t u ty e i ht hu hi hz hsize hby (.slice none 0 0) 0 xs ⟨hown.1,.inl ⟨rfl,rfl⟩⟩ s h63 hbytes (Nat.le_refl _);by_cases hm:s.size=0
   · have hv:=h4.2 ⟨rfl,hm⟩;refine⟨v',w',h1,⟨h2.1,?_⟩,h3,.inl (by rw[hv])⟩;rcases h2.2 with h|⟨g,cap,cur,h,_⟩
     · exact .inl h
     · rw[hv]at h;cases h
   · have hr:=run_append_nil_string (P:=P) w t u ty e i (.int .u8 0) ht hu hi hz s (by omega) (by omega) (by rw[hby];omega);have e0:=hr.symm.trans h1;injection e0 with e1 e2;refine⟨v',w',h1,⟨h2.1,?_⟩,h3,.inr (by rw[←e1];rfl)⟩;rcases h2.2 with h|⟨g,cap,cur,h,hg,r⟩
     · exact .inl h
     · exact .inr ⟨g,cap,cur,h,Nat.le_trans hbase hg,r⟩
 · obtain⟨v',w',h1,h2,h3,_⟩:=Lib.run_append_own_string (P:=P) w base t u ty e i ht hu hi hz hsize hby _ n xs hown s h63 hbytes hbase;refine⟨v',w',h1,h2,h3,?_⟩;by_cases hroom:n+s.size≤cap
   · have hr := Lib.run_append_room_string (P := P) w t u ty e i ht hu hi hsize g n cap cur hg s hroom (by have hcs' : cur.size = cap := by simpa using hcs
                                                                                                           omega)
     have e0:=hr.symm.trans h1;injection e0 with e1 e2;exact .inl (by rw[←e1];rfl)
   · have hxl:xs.length=n:=by simpa using hown.1
     have hr:=Lib.run_append_grow_string (P:=P) w t u ty e i (.int .u8 0) ht hu hi hz ⟨g,0,none⟩ n cap xs (by rw[hsize];simpa using hxl) (hown.cells (g:=g) rfl) s (by omega) (by omega) (by rw[hby];exact growslice_fits (by omega) (by omega));have e0:=hr.symm.trans h1;injection e0 with e1 e2;exact .inr (by rw[←e1];rfl)
theorem St.appendStr(hS:St S w H){k:Nat}{r:Row}(hk:H k=some r){ad0:Option Addr}{n0 c0:Nat}(hs0:S.loc k=.slice ad0 n0 c0){t u ty:TypeId}{x:Nat×Nat}(he:cM P t=some (r.e,x))(hsz:r.sz=1)
  (hu:P.underlying u=some .string) (hb0:Ly P r.e=true) (s:ByteArray) (hb:r.es.length+s.size≤140737488355328):
  ∃v' w',(Builtin.append_ #[t,u] ty #[S.loc k,.string s]).run P w=.ok v' w'∧(∃a n c,v'=.slice a n c) ∧
   St (S.addRow v' r.sz) w' (bG (bG H k none) S.N (some ⟨r.e,r.sz,r.es++HO s⟩))∧Grow S w (S.addRow v' r.sz) w':=by
 have hR:=hS.rows k r hk;obtain⟨sz,bytes⟩:=x;obtain⟨inf,z,hut,hi,_⟩:=eG he;obtain⟨inf',hi',hz,hsize,hby⟩:=Kw hb0;obtain rfl:inf=inf':=by rw[hi]at hi';injection hi'
 obtain⟨xs,ho,hr,h1⟩:=hR.sl hs0;rw[hsz]at ho;obtain⟨v',w',q1,q2,q3,q5⟩:=wW (P:=P) (w:=w) 0 t u ty r.e inf hut hu hi hz hsize hby (S.loc k) r.es.length xs ho s hb (Nat.zero_le _);have hbk:blk (S.loc k)=(S.loc k).ownBlock:=by rw[hs0];exact OG _ _ _
 have hbv:blk v'=v'.ownBlock:=by rcases q2.2 with⟨h,_⟩|⟨_,_,_,h,_⟩ <;> (rw[h];rfl)
 exact⟨v',w',q1,hS.appendFin hk hr h1 (by omega) (by rw[hsz];exact Of s) (PV s) (Lib.strCells_oneCell s) (by rw[hsz,OD];exact q2) (by rw[hbk];exact q3) (by rw[hbk,hbv];exact q5)⟩
theorem EX{es:List (List AV)}{ad:Option Addr}{n:Nat}(h:rep S w (.cl es) (.slice ad n n)){sz:Nat}(hl:dF sz es):
  ∃l,l.length=es.length*sz∧aV S w es.flatten l∧(∀x∈l,x.oneCell'=true)∧n=es.length∧n≤maxLen∧(es=[]∨∃b o,ad=some ⟨b,o,none⟩∧∀j x,l[j]?=some x→w.cell? ⟨b,o+j,none⟩=some x):=by
 simp only[rep]at h;obtain⟨ad',n',e,rfl,hm,h4⟩:=h;injection e with e1 e2 e3;subst e1 e2;rcases h4 with rfl|⟨b,o,sz',rfl,hb,hs,hels⟩
 ·exact⟨[],by simp,by simp[aV],by simp,rfl,hm,.inl rfl⟩
 ·obtain⟨l,e1,e2,e3,e4⟩:=jG _ _ (qW es o hels);refine⟨l,?_,e2,e3,rfl,hm,.inr ⟨b,o,rfl,e4⟩⟩;rw[eL _ _ e2,gZ es (fJ.1 hl)]
theorem MN{g:Nat}{cur:Array Value}{e:TypeId}{j:Nat}(h:w.heap[g]?=some (.cells cur e (0,0)))(hj:j<cur.size):(w.cell? ⟨g,j,none⟩).isSome=true:=by simp[World.cell?,h,hj]
theorem IX{g:Nat}{cur:Array Value}{e:TypeId}{j:Nat}(h:w.heap[g]?=some (.cells cur e (0,0))):w.frozen? ⟨g,j,none⟩=false:=by simp[World.frozen?,h]
theorem St.drop'{H':aC}(h:St S w H)(hs:∀k r,H' k=some r→H k=some r):St S w H':=
 ⟨h.ro_fz,h.fz_lt,fun k r hk=>h.rows k r (hs k r hk),fun k r hk=>h.free k r (hs k r hk),fun k k' r r' hk hk'=>h.disj k k' r r' (hs k r hk) (hs k' r' hk'),h.tabs⟩
theorem St.newOwned(hS:St S w H){e:TypeId}{sz:Nat}{es':List (List AV)}{vals:List Value}{v':Value}{w':World}(hpos:0<sz)(hes:∀cs∈es',cs.length=sz)(hn0:0<es'.length)
  (q2:w'.ownsRow w.heap.size e sz v' es'.length vals) (q3:w.grownBy w' none) (hr:aV S w es'.flatten vals) (h1:∀x∈vals,x.oneCell'=true):
  (∃a n c,v'=.slice a n c)∧St (S.addRow v' sz) w' (bG H S.N (some ⟨e,sz,es'⟩))∧Grow S w (S.addRow v' sz) w'∧∃g cap,v'=.slice (some ⟨g,0,none⟩) es'.length cap∧es'.length≤cap:=by
 obtain⟨g,cap,cur,hv,hg0,hg,hnc,hcm,hcs,htk⟩:∃g cap cur,v'=.slice (some ⟨g,0,none⟩) es'.length cap∧w.heap.size≤g∧w'.heap[g]?=some (.cells cur e (0,0))∧es'.length≤cap∧cap≤maxLen∧cur.size=cap*sz∧cur.toList.take (es'.length*sz)=vals:=by
  rcases q2.2 with⟨_,h⟩|⟨g,cap,cur,h1,h2,h3,h4,h5,h6,h7⟩
  ·omega
  ·exact⟨g,cap,cur,h1,h2,h3,h4,h5,h6,h7⟩
 subst hv;have hsame:∀k,k<w.heap.size→w'.heap[k]?=w.heap[k]?:=fun k hk=>q3.block k hk (by simp)
 have hkept:fI S w w':=fun k hk=>hsame k (hS.fz_lt k (hS.ro_fz k hk))
 have hle:=S.le_addRow (.slice (some ⟨g,0,none⟩) es'.length cap) sz;have hlocN:(S.addRow (.slice (some ⟨g,0,none⟩) es'.length cap) sz).loc S.N=.slice (some ⟨g,0,none⟩) es'.length cap:=by simp[Sg.addRow]
 have hold:∀k r,k≠S.N→bG H S.N (some ⟨e,sz,es'⟩) k=some r→H k=some r:=fun k r hk h=>by rwa [aK _ _ _ _ hk]at h
 refine⟨⟨_,_,_,rfl⟩,⟨hS.ro_fz,fun k hk=>Nat.lt_of_lt_of_le (hS.fz_lt k hk) q3.size,?_,?_,?_,hS.tabs.keep hle hkept⟩,⟨hle,fun _ h=>h,q3.os,q3.tape,q3.output,q3.size,fun k hk=>hsame k (hS.fz_lt k hk),fun _ h=>.inl h⟩,g,cap,rfl,hnc⟩
 ·intro k r hk;by_cases e0:k=S.N
  ·subst e0;rw[aD]at hk;injection hk with hk;subst hk;refine⟨Nat.lt_succ_self _,by simp[Sg.addRow],hpos,hes,.inl ⟨vals,?_,dN hle hkept _ _ hr,h1⟩⟩;rw[hlocN];exact⟨q2.1,.inr ⟨g,cap,cur,rfl,Nat.zero_le _,hg,hnc,hcm,hcs,htk⟩⟩
  ·have hk':=hold k r e0 hk;exact(hS.rows k r hk').keep hle hkept fun g' hg'=>hsame g' ((hS.rows k r hk').block_lt hg')
 ·intro k r hk g' hg';by_cases e0:k=S.N
  ·subst e0;rw[hlocN]at hg';simp only[blk,Option.some.injEq]at hg';subst hg';exact fun h=>by have:=hS.fz_lt _ h;omega
  ·have hk':=hold k r e0 hk;rw[hle.loc k (hS.rows k r hk').lt]at hg';exact hS.free k r hk' g' hg'
 ·intro k k' r r' hk hk' hne' g' hg' hg2;by_cases e0:k=S.N
  ·subst e0;rw[hlocN]at hg';simp only[blk,Option.some.injEq]at hg';subst hg';have hk2:=hold k' r' (Ne.symm hne') hk';rw[hle.loc k' (hS.rows k' r' hk2).lt]at hg2;have:=(hS.rows k' r' hk2).block_lt hg2;omega
  ·have hk2:=hold k r e0 hk;rw[hle.loc k (hS.rows k r hk2).lt]at hg';by_cases e1:k'=S.N
   ·subst e1;rw[hlocN]at hg2;simp only[blk,Option.some.injEq]at hg2;subst hg2;have:=(hS.rows k r hk2).block_lt hg';omega
   ·have hk3:=hold k' r' e1 hk';rw[hle.loc k' (hS.rows k' r' hk3).lt]at hg2;exact hS.disj k k' r r' hk2 hk3 hne' g' hg' hg2
theorem St.appendNew(hS:St S w H){es:List (List AV)}{us:Value}(hus:rep S w (.cl es) us){t ty e:TypeId}{sz bytes:Nat}(he:cM P t=some (e,sz,bytes)){news:List (List AV)}{u:Value}(hu:oC S w u news)(hne:news≠[])
   (hes:dF sz es) (hlen:dF sz news) (hb:(es.length+news.length)*bytes≤140737488355328):
   ∃v' w',(Builtin.append_ #[t,t] ty #[us,u]).run P w=.ok v' w'∧(∃a n c,v'=.slice a n c) ∧
     St (S.addRow v' sz) w' (bG H S.N (some ⟨e,sz,es++news⟩))∧Grow S w (S.addRow v' sz) w':=by
 obtain⟨inf,z,hut,hi,hsz,hby,hpos,hbpos,hz,hzs⟩:=eG he;have hus0:=hus;simp only[rep]at hus0;obtain⟨ad0,n0,rfl,_⟩:=hus0;obtain⟨l0,hl0,hr0,h10,rfl,hm0,hc0⟩:=EX hus hes;obtain⟨ad,c,l,rfl,hl,hl1,hsrc⟩:=hu;have hlen':=fJ.1 hlen;have hes':=fJ.1 hes;have hll:l.length=news.length*sz:=by rw[eL _ _ hl,gZ news hlen']
 have hn1:0<news.length:=List.length_pos_iff.2 hne;have hnm:es.length+news.length≤140737488355328:=Nat.le_trans (Nat.le_mul_of_pos_right _ hbpos) hb;obtain⟨b,o,rfl,hcell⟩:∃b o,ad=some ⟨b,o,none⟩∧∀j x,l[j]?=some x→w.cell? ⟨b,o+j,none⟩=some x:=by
   rcases hsrc with h|h
   · exact absurd h hne
   · exact h
 have hcells:∀j x,l[j]?=some x→w.cell? ((⟨b,o,none⟩:Addr).add j)=some x:=fun j x hj=>by rw[Addr.add_lit];exact hcell j x hj
 have key:∃v' w',(Builtin.append_ #[t,t] ty #[.slice ad0 es.length es.length,.slice (some ⟨b,o,none⟩) news.length c]).run P w=.ok v' w'∧w'.ownsRow w.heap.size e sz v' (es.length+news.length) (l0++l)∧w.grownBy w' none:=by
   cases ad0 with
   | none=>
     have he0:es=[]:=by
       rcases hc0 with h|⟨_,_,h,_⟩
       · exact h
       · cases h
     subst he0;obtain rfl:l0=[]:=List.eq_nil_of_length_eq_zero (by simpa using hl0);obtain⟨v',w',q1,q2,q3,_⟩:=run_append_own (P:=P) w w.heap.size t ty e inf z sz bytes hut hi hz hsz hby hzs hpos (.slice none 0 0) 0 [] (World.ownsRow_nil w _ e sz) ⟨b,o,none⟩ news.length c l hll hcells hl1 (by simp only[maxLen];omega) hb (Nat.le_refl _);exact⟨v',w',q1,q2,q3⟩
   | some a0=>
     have holds:∀j x,l0[j]?=some x→w.cell? (a0.add j)=some x:=by
       rcases hc0 with h|⟨b0,o0,h,hc⟩
       · subst h;obtain rfl:l0=[]:=List.eq_nil_of_length_eq_zero (by simpa using hl0);simp
       · injection h with h;subst h;intro j x hj;rw[Addr.add_lit];exact hc j x hj
     exact run_append_arg_grows (P:=P) w t ty e inf z sz bytes hut hi hz hsz hby hzs hpos a0 es.length es.length l0 hl0 holds ⟨b,o,none⟩ news.length c l hll hcells (by omega) (by simp only[maxLen];omega) hb
 obtain⟨v',w',q1,q2,q3⟩:=key;have hf:(es++news).flatten=es.flatten++news.flatten:=List.flatten_append;obtain ⟨p1, p2, p3, _⟩ := hS.newOwned (es' := es ++ news) hpos (fun cs hcs => by
     rcases List.mem_append.1 hcs with hcs|hcs
     · exact hes' cs hcs
     · exact hlen' cs hcs) (by simp;omega) (by rw[List.length_append];exact q2) q3 (by rw[hf];exact dA _ _ _ _ hr0 hl) (fun x hx=>by
     rcases List.mem_append.1 hx with hx|hx
     · exact h10 x hx
     · exact hl1 x hx)
 exact⟨v',w',q1,p1,p2,p3⟩
theorem St.appendOz(hS:St S w H){k a b:Nat}{r:Row}(hk:H k=some r){us:Value}(hus:rep S w (.oz k a b) us){t ty:TypeId}{bytes:Nat}(he:cM P t=some (r.e,r.sz,bytes)){news:List (List AV)}{u:Value}(hu:oC S w u news)
   (hne:news≠[]) (hb:b=r.es.length) (hlen:dF r.sz news) (hsize:(r.es.length+news.length)*bytes≤140737488355328):
   ∃v' w' vl pre,(Builtin.append_ #[t,t] ty #[us,u]).run P w=.ok v' w'∧St (S.addRow vl r.sz) w' (bG (bG H k none) S.N (some ⟨r.e,r.sz,pre++(r.es.drop a++news)⟩))∧Grow S w (S.addRow vl r.sz) w' ∧
     rep (S.addRow vl r.sz) w' (.oz S.N pre.length (pre.length+(b-a)+news.length)) v'∧pre.length≤a:=by
 have hR:=hS.rows k r hk;obtain⟨inf,z,hut,hi,hsz,hby,hpos,hbpos,hz,hzs⟩:=eG he;have hus0:=hus;simp only[rep]at hus0;obtain⟨hkN,ad0,n0,c0,ad1,cc,hloc,rfl,hab,hbn,hadr,hzero,hnc,hc1,hc2⟩:=hus0;have hsub:∀x:Option Row,∀j r',bG (bG H k none) S.N x j=some r'→bG H S.N x j=some r':=fun x j r' h=>by
   by_cases e:j=S.N
   · subst e;rw[aD]at h ⊢;exact h
   · rw[aK _ _ _ _ e]at h ⊢;by_cases e2:j=k
     · subst e2;rw[aD]at h;cases h
     · rw[aK _ _ _ _ e2]at h;exact h
 have hu0:=hu;obtain⟨ad,c,l,rfl,hl,hl1,hsrc⟩:=hu0;have hlen':=fJ.1 hlen;have hll:l.length=news.length*r.sz:=by rw[eL _ _ hl,gZ news hlen']
 have hn1:0<news.length:=List.length_pos_iff.2 hne;have hnm:r.es.length+news.length≤140737488355328:=Nat.le_trans (Nat.le_mul_of_pos_right _ hbpos) hsize;obtain⟨bn,on,rfl,hcell⟩:∃b o,ad=some ⟨b,o,none⟩∧∀j x,l[j]?=some x→w.cell? ⟨b,o+j,none⟩=some x:=by
   rcases hsrc with h|h
   · exact absurd h hne
   · exact h
 have hcells:∀j x,l[j]?=some x→w.cell? ((⟨bn,on,none⟩:Addr).add j)=some x:=fun j x hj=>by rw[Addr.add_lit];exact hcell j x hj
 rcases Nat.lt_or_ge 0 cc with hac|hac
 · obtain⟨g,rfl,rfl⟩:=hadr hac;obtain⟨xs,ho,hr,h1⟩:=hR.sl hloc;obtain⟨cur,hgc,hcs,htk,rfl⟩:∃cur,w.heap[g]?=some (.cells cur r.e (0,0))∧cur.size=c0*r.sz∧cur.toList.take (r.es.length*r.sz)=xs∧n0=r.es.length:=by
     rcases ho.2 with⟨hv,_⟩|⟨g',cap,cur,hv,_,h3,h4,h5,h6,h7⟩
     · rw[hloc]at hv;cases hv
     · rw[hloc]at hv;injection hv with e1 e2 e3;injection e1 with e1;injection e1 with e1;subst e1 e2 e3;exact⟨cur,h3,h6,h7,rfl⟩
   have hxl:xs.length=r.es.length*r.sz:=ho.1;have hxc:∀j x,xs[j]?=some x→w.cell? ⟨g,j,none⟩=some x:=fun j x hj=>by
     have:=ho.cells (g:=g) (by rw[hloc];rfl) j x hj
     rwa [Addr.add_lit,Nat.zero_add]at this
   subst hb;rcases Nat.lt_or_ge cc (r.es.length-a+news.length)with hgrow|hroom
   · have hoc : ∀ j x, (xs.drop (a * r.sz))[j]? = some x → w.cell? ((⟨g, a * S.sz k, none⟩ : Addr).add j) = some x := fun j x hj => by rw[List.getElem?_drop]at hj;rw[Addr.add_lit,←hR.sz];exact hxc _ _ hj
     obtain⟨v',w',q1,q2,q3⟩:=run_append_arg_grows (P:=P) w t ty r.e inf z r.sz bytes hut hi hz hsz hby hzs hpos ⟨g,a*S.sz k,none⟩ (r.es.length-a) cc (xs.drop (a*r.sz)) (by rw[List.length_drop,hxl,Nat.sub_mul]) hoc ⟨bn,on,none⟩ news.length c l hll hcells hgrow (by simp only[maxLen];omega)
       (Nat.le_trans (Nat.mul_le_mul_right _ (by omega)) hsize)
     have hle:(r.es.drop a++news).length=r.es.length-a+news.length:=by simp
     have hrd:aV S w (r.es.drop a).flatten (xs.drop (a*r.sz)):=by rw[qU r.es a hR.len];exact nG _ _ _ hr
     obtain ⟨_, p2, p3, g', cap', rfl, hcap⟩ := hS.newOwned (es' := r.es.drop a ++ news) (vals := xs.drop (a * r.sz) ++ l) hpos (fun cs hcs => by
         rcases List.mem_append.1 hcs with hcs|hcs
         · exact hR.len cs (List.mem_of_mem_drop hcs)
         · exact hlen' cs hcs) (by rw[hle];omega) (by rw[hle];exact q2) q3 (by rw[List.flatten_append];exact dA _ _ _ _ hrd hl) (fun x hx=>by
         rcases List.mem_append.1 hx with hx|hx
         · exact h1 x (List.mem_of_mem_drop hx)
         · exact hl1 x hx)
     refine⟨_,w',_,[],q1,p2.drop' (hsub _),p3,?_,Nat.zero_le _⟩;simp only[rep,List.length_nil,Nat.zero_add,Sg.addRow,if_true];exact⟨Nat.lt_succ_self _,_,_,_,_,_,rfl,by rw[hle];rfl,Nat.zero_le _,by rw[hle];exact Nat.le_refl _,fun _=>⟨g',rfl,by rw[Nat.zero_mul]⟩,fun _=>rfl,hcap,by omega,by omega⟩
   · have hsp : ∀ off sLen cap, off + sLen * inf.size = r.es.length * r.sz → sLen + news.length ≤ cap → (Builtin.append_ #[t, t] ty #[.slice (some ⟨g, off, none⟩) sLen cap, .slice (some ⟨bn, on, none⟩) news.length c]).run P w = .ok (.slice (some ⟨g, off, none⟩) (sLen + news.length) cap) (w.setCells g (r.es.length * r.sz) l) := fun off sLen cap ho' hrm => by
       have hin:∀j,j<l.length→r.es.length*r.sz+j<cur.size:=fun j hj=>by have:(r.es.length+news.length)*r.sz≤c0*r.sz:=Nat.mul_le_mul_right _ (by omega);rw[Nat.add_mul]at this;rw[hcs];omega
       have:=run_append_room_cells (P:=P) w t ty r.e inf hut hi g off sLen cap ⟨bn,on,none⟩ news.length c l (by rw[hsz];exact hll) hcells hl1 hrm
         (fun j hj=>by rw[ho'];exact MN hgc (hin j hj)) (fun j hj=>by rw[ho'];exact IX hgc)
       rw[ho']at this;exact this
     have r1:=hsp 0 r.es.length c0 (by rw[hsz,Nat.zero_add]) (by omega);have r2:=hsp (a*S.sz k) (r.es.length-a) cc (by rw[hsz,←hR.sz,←Nat.add_mul];congr 1;omega) (by omega);obtain⟨v1,w1,q1,_,q2,q3⟩:=hS.append hk hloc (ty:=ty) he hu hlen hsize;rw[hloc,r1]at q1;injection q1 with e1 e2;subst e1 e2;have hta:(r.es.take a).length=a:=by rw[List.length_take];omega
     refine⟨_,_,_,r.es.take a,r2,?_,q3,?_,Nat.le_of_eq hta⟩
     · rw[←List.append_assoc,List.take_append_drop];exact q2
     · simp only[rep,Sg.addRow,if_true];rw[hta];exact⟨Nat.lt_succ_self _,_,_,_,_,_,rfl,congrArg (fun m=>Value.slice _ m _) (by omega),by omega,by omega,fun _=>⟨g,rfl,by rw[←hR.sz]⟩,fun h0=>by subst h0;rw[Nat.zero_mul],by omega,by omega,by omega⟩
 · have e0:r.es.drop a=[]:=List.drop_eq_nil_of_le (by omega);have hcc:cc=0:=by omega
   have hba:b-a=0:=by omega
   obtain⟨v',w',q1,⟨x1,x2,x3,rfl⟩,q2,q3⟩:=hS.appendNew (es:=[]) (us:=.slice ad1 (b-a) cc) (by simp only[rep];exact⟨ad1,0,by rw[hcc,hba],rfl,Nat.zero_le _,.inl trivial⟩) (ty:=ty) he hu hne trivial hlen (by simpa using Nat.le_trans (Nat.mul_le_mul_right _ (Nat.le_add_left _ _)) hsize);have hrow:=q2.rows S.N _ (aD _ _ _);obtain⟨xs',ho',_,_⟩:=hrow.sl (by simp[Sg.addRow]:(S.addRow (.slice x1 x2 x3) r.sz).loc S.N=.slice x1 x2 x3);have hl2:(S.addRow (.slice x1 x2 x3) r.sz).loc S.N=.slice x1 x2 x3:=by simp[Sg.addRow]
   obtain⟨g',rfl,rfl,hc3⟩:∃g',x1=some ⟨g',0,none⟩∧x2=news.length∧news.length≤x3:=by
     rcases ho'.2 with⟨_,hn⟩|⟨g',cap',cur',hv,_,_,h4,_⟩
     · simp at hn;exact absurd hn hne
     · rw[hl2]at hv;injection hv with e1 e2 e3;subst e3;simp at e2 h4;exact⟨g',e1,e2,h4⟩
   refine⟨_,w',_,[],q1,?_,q3,?_,Nat.zero_le _⟩
   · rw[e0];exact q2.drop' (hsub _)
   · simp only[rep,List.length_nil,Nat.zero_add,Sg.addRow,if_true,hba];exact⟨Nat.lt_succ_self _,_,_,_,_,_,rfl,by rw[Nat.sub_zero],Nat.zero_le _,Nat.le_refl _,fun _=>⟨g',rfl,by rw[Nat.zero_mul]⟩,fun _=>rfl,hc3,by omega,by omega⟩
end
end Go.Aw
end
