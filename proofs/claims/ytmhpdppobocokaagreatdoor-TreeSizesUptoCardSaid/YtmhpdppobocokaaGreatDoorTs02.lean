import Derived.MapKept
import Derived.Lib.ItoaMem
import Derived.Lib.TrailingZeros
import Derived.ArgAppend
import Derived.Test.YtmhpdppobocokaaGreatDoorTs01
set_option linter.unusedSimpArgs false
set_option linter.unusedVariables false
set_option linter.defProp false
set_option maxRecDepth 100000
section
namespace Go.Aw
open Go.RowKit
section
variable{P:Program}{S:Sg}{H:aD}{w:World}{G:Option Bool}{K:AV->Prop}
def eH{n:Nat}:∀{l:List (List AV)},cT n l↔∀cs∈l,cs.length=n
 | []=>by simp[cT]
 | x::r=>by simp[cT,eH (l:=r)]
def J0{α:Type}{n:Nat}{f:α->List AV}(h:∀x,(f x).length=n)(l:List α):cT n (l.map f):=eH.2 fun cs u=>by obtain⟨x,_,rfl⟩:=List.mem_map.1 u;exact h x
def Qo{b:Bool}{u:Value}(h:rep S w (.v (.bool b)) u):u=.bool b:=by simpa only[rep]using h
def oA{c:Bool}{x y:AV}{u v:Value}(F:c=true->rep S w x u)(E:c=false->rep S w y v):rep S w (rS c x y) (if c then u else v):=by
 unfold rS;split
 ·cases c
  ·have:=E rfl;simp only[rep]at this |-;subst this;simp
  ·have:=F rfl;simp only[rep]at this |-;subst this;simp
 ·cases c
  ·have:=E rfl;simp only[rep]at this |-;subst this;simp
  ·have:=F rfl;simp only[rep]at this |-;subst this;simp
 ·cases c
  ·have:=E rfl;simp only[rep]at this |-;subst this;simp
  ·have:=F rfl;simp only[rep]at this |-;subst this;simp
 ·cases c
  ·simpa using E rfl
  ·simpa using F rfl
def GH{c:Bool}{x y:AV}(h:uN G c x y K):
  ∃z,K z/\(gt G->∀u v,rep S w x u->rep S w y v->rep S w z (if c then u else v)):=by
 unfold uN at h;split at h
 ·refine⟨_,h.2.2,fun L u v E F=>oA (fun J=>?_) (fun J=>?_)⟩
  ·simp only[rep]at E;exact E.1 (h.1 L J)
  ·simp only[rep]at F;exact F.1 (h.2.1 L J)
 ·refine⟨_,h.2,fun L u v E F=>oA (fun J=>?_) (fun _=>F)⟩;simp only[rep]at E;exact E.1 (h.1 L J)
 ·refine⟨_,h.2,fun L u v E F=>oA (fun _=>E) (fun J=>?_)⟩;simp only[rep]at F;exact F.1 (h.1 L J)
 ·exact⟨_,h,fun _ u v E F=>oA (fun _=>E) (fun _=>F)⟩
def CL{v:Value}(h:v.oneCell'=true):v.cells=#[v]:=by cases v <;> first|rfl|simp[Value.oneCell']at h
def qX{x:AV}{K:List AV->Prop}(h:gS x K):∃cs,K cs/\∀u,rep S w x u->∃l:List Value,u.cells=l.toArray/\aR S w cs l/\(∀v∈l,v.oneCell'=true):=by
 have one:∀(x:AV) (u:Value),rep S w x u->u.oneCell'=true->∃l:List Value,u.cells=l.toArray/\aR S w [x] l/\(∀v∈l,v.oneCell'=true):=fun x u E h1=>⟨[u],CL h1,by simp only[aR];exact⟨u,[],rfl,E,rfl⟩,by simpa using h1⟩
 unfold gS at h;split at h
 ·refine⟨_,h,fun u E=>?_⟩;simp only[rep]at E;obtain⟨l,rfl,h1,F⟩:=E;exact⟨l,rfl,h1,F⟩
 ·refine⟨_,h.2,fun u E=>one _ u E ?_⟩;simp only[rep]at E;subst E;exact h.1
 ·refine⟨_,h,fun u E=>one _ u E ?_⟩;simp only[rep]at E;obtain⟨_,_,_,rfl,_⟩:=E;rfl
 ·refine⟨_,h,fun u E=>one _ u E ?_⟩;simp only[rep]at E;obtain⟨_,_,rfl,_⟩:=E;rfl
 ·refine⟨_,h,fun u E=>one _ u E ?_⟩;simp only[rep]at E;obtain⟨_,_,_,_,_,rfl⟩:=E;rfl
 ·refine⟨_,h,fun u E=>one _ u E ?_⟩;simp only[rep]at E;obtain⟨_,_,_,_,_,rfl⟩:=E;rfl
 ·refine⟨_,h,fun u E=>one _ u E ?_⟩;simp only[rep]at E;obtain⟨_,_,_,_,_,_,_,rfl,_⟩:=E;rfl
 ·refine⟨_,h,fun u E=>one _ u E ?_⟩;simp only[rep]at E;obtain⟨_,_,_,rfl⟩:=E;rfl
 ·exact h.elim
def xT(v:Value):rep S w (lA v) v:=by
 unfold lA;split
 ·unfold rep;exact⟨none,0,0,rfl,rfl,Nat.le_refl _,Nat.zero_le _,.inl rfl⟩
 ·exact gM
def iD:∀(l:List Value),aR S w (l.map lA) l
 | []=>by simp[aR]
 | v::r=>by simp only[List.map_cons,aR];exact⟨v,r,rfl,xT v,iD r⟩
def yO:∀(l:List Value) (i:Nat) (A:Array Value) (o:Nat),o+i+l.length<=A.size ->
  ((l.zipIdx i).foldl (fun cs (p:Value×Nat)=>cs.setIfInBounds (o+p.2) p.1) A).toList=A.toList.take (o+i)++l++A.toList.drop (o+i+l.length)
 | [],i,A,o,h=>by simp
 | v::r,i,A,o,h=>by
  simp only[List.zipIdx_cons,List.foldl_cons,List.length_cons]at h |-;rw[yO r (i+1) _ o (by simp;omega)];have E:(A.setIfInBounds (o+i) v).toList=A.toList.set (o+i) v:=by simp
  rw[E,show o+(i+1)=o+i+1 by omega,List.take_set,List.drop_set_of_lt (by omega)];have u:o+i<A.toList.length:=by simp;omega
  have e2:(List.take (o+i+1) A.toList).set (o+i) v=List.take (o+i) A.toList++[v]:=by
   rw[List.take_succ_eq_append_getElem u,List.set_append_right _ _ (by simp;omega)];have:(List.take (o+i) A.toList).length=o+i:=by rw[List.length_take];omega
   rw[this,Nat.sub_self];rfl
  rw[e2];simp only[List.append_assoc,List.singleton_append,List.cons_append,List.nil_append];rw[show o+i+1+r.length=o+i+(r.length+1)by omega]
def tJ{places:List (Nat×Nat)}{place:Nat->Option (Nat×Nat)}(O:∀i on,places[i]?=some on->place i=some on):∀(E:List (Nat×List AV)) (vs:List (Nat×Value)) (cs:List AV) (A:Array Value) (cs':List AV),
  lP places cs E=some cs'->aR S w cs A.toList->(∀v∈A.toList,v.oneCell'=true) ->
  E.length=vs.length->(∀(j i:Nat) (c:List AV),E[j]?=some (i,c)->∃(v:Value) (l:List Value),vs[j]?=some (i,v)/\v.cells=List.toArray l/\aR S w c l/\∀u∈l,u.oneCell'=true) ->
  ∃Z,Instr.fill place A vs=some Z/\aR S w cs' Z.toList/\(∀v∈Z.toList,v.oneCell'=true)
 | [],vs,cs,A,cs',F,hr,h1,hl,_=>by simp only[lP]at F;injection F with F;subst F;have:vs=[]:=List.eq_nil_of_length_eq_zero (by simpa using hl.symm);subst this;exact⟨A,rfl,hr,h1⟩
 | (i,c)::rest,vs,cs,A,cs',F,hr,h1,hl,hv=>by
  obtain⟨v,l,e1,e2,e3,e4⟩:=hv 0 i c (by simp);cases vs with
  | nil=>simp at e1
  | cons q vs=>
   simp at e1;subst e1;simp only[lP]at F;cases hp:places[i]? with
   | none=>simp[hp]at F
   | some on=>
    obtain⟨off,n⟩:=on;simp only[hp]at F;split at F
    ·rename_i hc;have M:l.length=n:=by rw[<-hc.1];exact eF _ _ e3
     have hA:A.toList.length=cs.length:=eF _ _ hr;have ab:A.size=cs.length:=by simpa using hA
     have hz:=yO l 0 A off (by rw[M,ab];have:=hc.2;omega);simp only[Nat.add_zero]at hz;have L:aR S w (cs.take off++c++cs.drop (off+n)) (A.toList.take off++l++A.toList.drop (off+l.length)):=by rw[M];exact cA _ _ _ _ (cA _ _ _ _ (mF _ _ _ hr) e3) (lZ _ _ _ hr)
     have aa:∀u∈A.toList.take off++l++A.toList.drop (off+l.length),u.oneCell'=true:=by
      intro u J;simp only[List.mem_append]at J;rcases J with(J|J)|J
      ·exact h1 u (List.mem_of_mem_take J)
      ·exact e4 u J
      ·exact h1 u (List.mem_of_mem_drop J)
     rw[<-hz]at L aa;obtain⟨Z,f1,f2,f3⟩:=tJ O rest vs _ _ cs' F L aa (by simpa using hl) (fun j i c hj=>by simpa using hv (j+1) i c (by simpa using hj));refine⟨Z,?_,f2,f3⟩;simp only[Instr.fill,O i _ hp,e2,List.size_toArray,M];rw[if_neg (by have:=hc.2;simp[ab];omega)];rw[<-f1]
     congr 1
     rw[<-Array.foldl_toList];simp
    ·simp at F
def iW{t:TypeId}{z:List AV}(h:cN P t=some z):∃i v,P.info? t=some i/\i.zero=some v/\z=v.cells.toList.map lA/\v.cells.size=i.size/\i.size≠0/\(∀u∈v.cells.toList,u.oneCell'=true):=by
 unfold cN at h;cases hi:P.info? t with
 | none=>simp[hi]at h
 | some i=>
  cases E:i.zero with
  | none=>simp[hi,E]at h
  | some v=>
   simp only[hi,E]at h;split at h
   ·rename_i F;injection h with h;exact⟨i,v,rfl,E,h.symm,F.1,F.2.1,fun u J=>List.all_eq_true.1 F.2.2 u J⟩
   ·simp at h
def aK{x:AV}{k:AV->Prop}(h:aX G x k):∃y,k y/\(gt G->∀u,rep S w x u->rep S w y u):=by
 unfold aX at h;split at h
 ·refine⟨_,h.2,fun F u E=>?_⟩;simp only[rep]at E;refine E.1 ?_;have:=h.1;cases G with
  | none=>exact this
  | some b=>exact this F
 ·exact⟨_,h,fun _ u E=>E⟩
def MW{op:UnOp}{x:AV}(h:aun op x K):∃z,K z/\∀u,rep S w x u->pC P S H w z (Op.unary op u):=by
 unfold aun at h;split at h
 ·refine⟨_,h,fun u E=>?_⟩;simp only[rep]at E;subst E;exact eP gM fun w'=>by simp[Op.unary]
 ·refine⟨_,h,fun u E=>?_⟩;simp only[rep]at E;subst E;exact eP gM fun w'=>by simp[Op.unary,Op.intArith]
 ·exact h.elim
def C0{t:TypeId}{k:IntKind}(h:zX P t=some k):P.underlying t=some (.int k):=by
 unfold zX at h;split at h
 ·rename_i u;injection h with h;subst h;exact u
 ·simp at h
def GD{t:TypeId}(h:KT P t=true):∃e,P.underlying t=some (.slice e)/\P.underlying e=some (.int .u8):=by
 unfold KT at h;split at h
 ·rename_i e E;split at h
  ·rename_i u;exact⟨e,E,u⟩
  ·simp at h
 ·simp at h
def B6:∀(es:List (List AV)) (ns:List Int) (o:Nat) {b sz:Nat},sY es=some ns->eB S w b sz o es->0<sz->ns.length=es.length/\∀j n,ns[j]?=some n->w.cell? ⟨b,o+j,none⟩=some (.int .u8 n)
 | [],ns,o,b,sz,h,_,_=>by simp only[sY]at h;injection h with h;subst h;simp
 | es::r,ns,o,b,sz,h,he,hs=>by
  unfold sY at h;split at h
  ·rename_i e;simp at e
  ·rename_i n r' e;injection e with M e2;subst M e2;cases J:sY r with
   | none=>simp[J]at h
   | some ns'=>
    simp[J]at h;subst h;simp only[eB,bW]at he;obtain⟨h1,⟨⟨u,h2,_,L⟩,_⟩,h4⟩:=he;simp only[rep]at L;subst L;have E:sz=1:=by simpa using h1.symm
    subst E;obtain⟨O,Z⟩:=B6 r ns' (o+1) J h4 hs;refine⟨by simp[O],fun j m F=>?_⟩;cases j with
    | zero=>simp at F;subst F;simpa using h2
    | succ j=>rw[show o+(j+1)=o+1+j by omega];exact Z j m (by simpa using F)
  ·simp at h
def He{src dst:TypeId}{x:AV}(h:wU P src dst x K):∃z,K z/\∀u,rep S w x u->pC P S H w z (convert src dst u):=by
 unfold wU at h;split at h
 ·split at h
  ·rename_i k k' hk ab;refine⟨_,h,fun u L=>?_⟩;simp only[rep]at L;subst L;refine eP gM fun w'=>?_
   simp[convert,run_underlying (C0 hk),run_underlying (C0 ab),Conv.intToInt]
  ·exact h.elim
 ·split at h
  ·rename_i Z;refine⟨_,h,fun u L=>?_⟩;simp only[rep]at L;subst L;refine eP gM fun w'=>?_
   simp[convert,run_underlying (dX Z.1),run_underlying (dX Z.2)]
  ·exact h.elim
 ·rename_i es;split at h
  ·rename_i Z;split at h
   ·rename_i ns M;refine⟨_,h,fun u L=>?_⟩;obtain⟨e,he,aa⟩:=GD Z.1;have hd:=dX Z.2;simp only[rep]at L;obtain⟨ad,n,c,rfl,h1,_,_,E⟩:=L;refine⟨_,gM,fun w' ha=>?_⟩;have F:es=[]->ns=[]:=fun e=>by subst e;simp[sY]at M;exact M
    cases ad with
    | none=>
     have:es=[]:=by rcases E with E|⟨b,o,sz,E,_⟩;exact E;simp at E
     rw[run_convert_bytes_nil w' src e he aa n c dst hd,F this];rfl
    | some a=>
     have J:(loadCells a n).run P w'=.ok (ns.map (Value.int .u8)).toArray w':=by
      rcases E with E|⟨b,o,sz,E,hb,ac,O⟩
      ·have hn:n=0:=by rw[<-h1,E];rfl
       rw[hn,F E];simp[loadCells,loadCellsFrom]
      ·injection E with E;subst E;obtain⟨i1,i2⟩:=B6 es ns o M O ac;have hn:n=(ns.map (Value.int .u8)).length:=by rw[List.length_map,i1,h1]
       rw[hn];refine run_loadCells_list w' _ _ fun j v hj=>?_
       rw[Addr.add_lit];simp at hj;obtain⟨m,hm,rfl⟩:=hj;exact ha.cell hb (i2 j m hm)
     rw[run_convert_bytes_string w' src dst e _ n c he aa hd,run_bytesToString w' a n c ns J,foldl_push_bytes]
     congr 3
     simp[ByteArray.empty,ByteArray.emptyWithCapacity];rfl
   ·exact h.elim
  ·exact h.elim
 ·exact h.elim
def vK{t:TypeId}{e sz u:Nat}(J:bM P t=some (e,sz,u)):P.underlying t=some (.slice (P.elem t))/\∀w:World,(sizeOf (P.elem t)).run P w=.ok sz w:=by
 obtain⟨i,z,F,hi,E,_⟩:=dU J;have:P.elem t=e:=by unfold Program.elem;rw[F]
 rw[this];exact⟨F,fun w=>by simp[sizeOf,typeInfo,hi,E]⟩
def zQ{t:TypeId}{x a b:AV}(h:Du P G t x a b K):
  ∃z,K z/\(gt G->∀(u L J:Value),rep S w x u->rep S w a L->rep S w b J->pC P S H w z (Instr.sliceAt t u none (some L) (some J))):=by
 unfold Du at h;split at h
 ·rename_i es ka a kb b;split at h
  ·rename_i e he;refine⟨_,h.2,fun hg u L J O h1 M=>?_⟩;obtain⟨e1,e2⟩:=h.1 hg;simp only[rep]at O h1 M;subst h1 M e1 e2;obtain⟨ad,n,c,rfl,rfl,hc,hm,h4⟩:=O;obtain⟨F,Z⟩:=vK (P:=P) (t:=t) (by rw[he]);refine⟨.slice ad es.length es.length,?_,fun w' _=>?_⟩
   ·simp only[rep];exact⟨ad,_,rfl,rfl,by omega,h4⟩
   ·rw[run_sliceAt_slice w' t _ _ _ _ F];have E:(es.length:Int)<=(c:Int):=by exact_mod_cast hc
    rcases h4 with rfl|⟨bb,o,sz,rfl,_⟩
    ·simp[Instr.slice,run_underlying F,Instr.sliceBounds,Instr.sliceBound,asIntOf,Z]
    ·simp[Instr.slice,run_underlying F,Instr.sliceBounds,Instr.sliceBound,asIntOf,Z,E,Addr.add];intro aa;omega
  ·exact h.elim
 ·exact h.elim
def BF{es:List (List AV)}{ad:Option Addr}{n c sz a b:Nat}(hu:rep S w (.sl es) (.slice ad n c))(J:cT sz es)(ab:a<=b)(hb:b<=es.length):
  rep S w (.sl ((es.take b).drop a)) (sliced ad a b c sz):=by
 simp only[rep]at hu |-;obtain⟨aa,n',c',e,h1,h2,h3,h4⟩:=hu;injection e with L e2 e3;subst L e2 e3;refine⟨_,_,_,rfl,by simp;omega,by omega,by omega,?_⟩;by_cases u:(es.take b).drop a=[]
 ·exact .inl u
 ·refine .inr ?_;rcases h4 with h4|⟨bl,o,F,rfl,M,hs,E⟩
  ·subst h4;simp at u
  ·have O : 0 < es.length := by
    rcases Nat.eq_zero_or_pos es.length with h0|h0
    ·have:=List.eq_nil_of_length_eq_zero h0;subst this;simp at u
    ·exact h0
   have Z:F=sz:=by have L:=(mE es o 0 E O).1;have e2:=eH.1 J (es.getD 0 []) (by simp only[List.getD,List.getElem?_eq_getElem O,Option.getD_some];exact List.getElem_mem O);rw[<-L,e2]
   subst Z;have ac:a<b:=by
    rcases Nat.lt_or_ge a b with h|h
    ·exact h
    ·exact absurd (List.drop_eq_nil_of_le (by simp;omega)) u
   refine⟨bl,o+a*F,F,?_,M,hs,?_⟩
   ·split
    ·omega
    ·simp[Addr.add_lit]
   ·exact vF _ o a (qL es o b E)
def E7{t:TypeId}{x:AV}{lo hi:Option AV}(h:lK P G t x lo hi K):
  ∃z,K z/\(gt G->∀(u:Value) (vl vh:Option Value),rep S w x u->(∀y,lo=some y->∃v,vl=some v/\rep S w y v)->(lo=none->vl=none)->(∀y,hi=some y->∃v,vh=some v/\rep S w y v)->(hi=none->vh=none) ->
   pC P S H w z (Instr.sliceAt t u vl vh none)):=by
 unfold lK at h;split at h
 ·rename_i es ka a kb b;split at h
  ·rename_i e sz aa he;refine⟨_,h.2,fun hg u vl vh J M _ Z _=>?_⟩;obtain⟨⟨h0,h1,h2⟩,h3⟩:=h.1 hg;obtain⟨v,rfl,F⟩:=M _ rfl;obtain⟨v',rfl,O⟩:=Z _ rfl;simp only[rep]at F O;subst F O;have L:=J;simp only[rep]at L;obtain⟨ad,n,c,rfl,e1,e2,_⟩:=L;obtain⟨E,hz⟩:=vK he;have:=BF (a:=a.toNat) (b:=b.toNat) J h3 (by omega) (by omega);refine⟨_,this,fun w' _=>?_⟩;rw[run_sliceAt_slice w' t _ _ _ _ E,run_slice_lh w' t ad n c E ka kb a b h0 h1 (by omega),hz];rfl
  ·exact h.elim
 ·rename_i es ka a;split at h
  ·rename_i e sz aa he;refine⟨_,h.2,fun hg u vl vh J M _ _ Z=>?_⟩;obtain⟨⟨h0,h1⟩,h3⟩:=h.1 hg;obtain⟨v,rfl,F⟩:=M _ rfl;have:=Z rfl;subst this;simp only[rep]at F;subst F;have L:=J;simp only[rep]at L;obtain⟨ad,n,c,rfl,e1,e2,_⟩:=L;obtain⟨E,hz⟩:=vK he;have:=BF (a:=a.toNat) (b:=es.length) J h3 (by omega) (by omega);rw[List.take_length,e1]at this;refine⟨_,this,fun w' _=>?_⟩;rw[run_sliceAt_slice w' t _ _ _ _ E,run_slice_l w' t ad n c E ka a h0 (by omega),hz];rfl
  ·exact h.elim
 ·rename_i es kb b;split at h
  ·rename_i e he;refine⟨_,h.2,fun hg u vl vh J _ M Z _=>?_⟩;obtain⟨h0,h1⟩:=h.1 hg;obtain⟨v,rfl,F⟩:=Z _ rfl;have:=M rfl;subst this;simp only[rep]at F;subst F;obtain⟨E,hz⟩:=vK he;simp only[rep]at J;obtain⟨ad,n,c,rfl,e1,e2,e3,e4⟩:=J;refine⟨sliced ad 0 b.toNat c e.2.1,?_,fun w' _=>?_⟩
   ·simp only[rep];refine⟨ad,b.toNat,c,?_,by simp;omega,by omega,e3,?_⟩
    ·simp only[sliced,Nat.sub_zero]
     congr 1
     split
     ·rfl
     ·cases ad <;> simp[Addr.add_zero']
    ·rcases e4 with e4|⟨bl,o,ae,rfl,ac,af,ab⟩
     ·left;rw[e4];simp
     ·exact .inr ⟨bl,o,ae,rfl,ac,af,qL es o _ ab⟩
   ·rw[run_sliceAt_slice w' t _ _ _ _ E,run_slice_h w' t ad n c E kb b h0 (by omega),hz];rfl
  ·exact h.elim
 ·rename_i s ka a kb b;split at h
  ·rename_i E;refine⟨_,h.2,fun hg u vl vh J M _ Z _=>?_⟩;obtain⟨h0,h1,h2⟩:=h.1 hg;obtain⟨v,rfl,F⟩:=M _ rfl;obtain⟨v',rfl,O⟩:=Z _ rfl;simp only[rep]at J F O;subst J F O;refine eP gM fun w'=>?_
   rw[run_sliceAt_string w' t _ _ _ _ (dX E),run_slice_string w' t s ka kb a b (dX E) h0 h1 h2]
  ·exact h.elim
 ·rename_i s ka a;split at h
  ·rename_i E;refine⟨_,h.2,fun hg u vl vh J M _ _ Z=>?_⟩;obtain⟨h0,h1⟩:=h.1 hg;obtain⟨v,rfl,F⟩:=M _ rfl;have:=Z rfl;subst this;simp only[rep]at J F;subst J F;refine eP gM fun w'=>?_
   rw[run_sliceAt_string w' t _ _ _ _ (dX E),run_slice_string_l w' t s (dX E) ka a h0 h1]
  ·exact h.elim
 ·rename_i s kb b;split at h
  ·rename_i E;refine⟨_,h.2,fun hg u vl vh J _ M Z _=>?_⟩;obtain⟨h0,h1⟩:=h.1 hg;obtain⟨v,rfl,F⟩:=Z _ rfl;have:=M rfl;subst this;simp only[rep]at J F;subst J F;refine eP gM fun w'=>?_
   rw[run_sliceAt_string w' t _ _ _ _ (dX E),run_slice_string_h w' t s (dX E) kb b h0 h1]
  ·exact h.elim
 ·exact h.elim
def Ez{k:Nat}{r:Row}(hH:oU S w H)(hk:H k=some r){a b c:Nat}{ad:Option Addr}{n:Nat}(M:S.loc k=.slice ad n c)(O:a<=b)(hb:b<=r.es.length):n=r.es.length/\n<=c/\rep S w (.oz k a b) (sliced ad a b c r.sz):=by
 have hR:=hH k r hk;obtain⟨xs,ho,_,_⟩:=hR.sl M;have u:(ad=none/\n=0/\c=0/\r.es.length=0)\/∃g,ad=some ⟨g,0,none⟩/\n=r.es.length/\n<=c:=by
  rcases ho.2 with⟨J,F⟩|⟨g,cap,cur,J,_,_,aa,_⟩
  ·rw[M]at J;injection J with h1 E L;exact .inl ⟨h1,E,L,F⟩
  ·rw[M]at J;injection J with h1 E L;subst L;exact .inr ⟨g,h1,E,by omega⟩
 have F:n=r.es.length/\n<=c:=by rcases u with⟨_,h1,E,L⟩|⟨g,_,h1,E⟩ <;> omega
 refine⟨F.1,F.2,?_⟩;simp only[rep,sliced];refine⟨hR.lt,ad,n,c,_,_,M,rfl,O,by omega,fun ab=>?_,fun Z=>?_,F.2,by omega,Nat.le_refl _⟩
 ·rcases u with⟨_,h1,E,L⟩|⟨g,h0,h1,E⟩
  ·omega
  ·subst h0;refine⟨g,rfl,?_⟩;rw[if_neg (by omega)];simp[Addr.add_lit,hR.sz]
 ·subst Z;rcases u with⟨h0,_,_,_⟩|⟨g,h0,_,_⟩
  ·subst h0;simp
  ·subst h0;simp[Addr.add_lit]
def Ed{k:Nat}(M:oU S w H){n c:Nat}(E:S.loc k=.slice none n c):B8 H k:=fun r L=>by
 obtain⟨xs,J,_,_⟩:=(M k r L).sl E;rcases J.2 with⟨_,F⟩|⟨g,cap,cur,u,_⟩
 ·exact List.eq_nil_of_length_eq_zero F
 ·rw[E]at u;cases u
def wI{H':aD}{t:TypeId}{x a b m:AV}(hH:oU S w H)(h:sT P G H t x a b m K):
  ∃z,K z/\(gt G->∀(u L M F:Value),rep S w x u->rep S w a L->rep S w b M->rep S w m F->pC P S H' w z (Instr.sliceAt t u (some L) (some M) (some F))):=by
 unfold sT at h;split at h
 ·rename_i k ka a kb b km m;split at h
  ·rename_i r e sz J hk he;obtain⟨Z,hz⟩:=vK he;refine⟨_,h.2,fun hg u L M F hu h1 h2 h3=>?_⟩;obtain⟨⟨q0,q1,q2,q3⟩,qs⟩:=h.1 hg;simp only[rep]at hu h1 h2 h3;subst h1 h2 h3 q0;obtain⟨_,rfl,ad,n,c,E⟩:=hu;obtain⟨p1,p2,p3⟩:=Ez (a:=0) (b:=b.toNat) hH hk E (by omega) (by omega);rw[E];refine⟨sliced ad 0 b.toNat m.toNat sz,?_,fun w' _=>?_⟩
   ·simp only[rep,sliced]at p3 |-;obtain⟨z1,ac,n1,c1,aa,cc,zl,ze,z2,z3,z4,z5,z6,z7,z8⟩:=p3;rw[E]at zl;injection zl with e1 e2 e3;subst e1 e2 e3;injection ze with f1 f2 f3;have e5:=z5 trivial;refine⟨z1,ad,n,c,_,_,E,rfl,by omega,by omega,fun ab=>?_,fun _=>?_,p2,by omega,by omega⟩
    ·obtain⟨g,O,g2⟩:=z4 (by omega);refine⟨g,O,?_⟩;subst O;split <;> simp[Addr.add_lit]
    ·split
     ·rfl
     ·cases ad with
      | none=>rfl
      | some d=>simp[Addr.add]
   ·rw[run_sliceAt_slice w' t _ _ _ _ Z,run_slice_lhm w' t ad n c Z ka kb km 0 b m (by omega) (by omega) (by omega) (by omega),hz];rfl
  ·exact h.elim
 ·exact h.elim
def mD{H':aD}{t:TypeId}{x:AV}{lo hi:Option AV}(hH:oU S w H)(h:asl P G H t x lo hi K):
  ∃z,K z/\(gt G->∀(u:Value) (O vh:Option Value),rep S w x u->(∀y,lo=some y->∃v,O=some v/\rep S w y v)->(lo=none->O=none)->(∀y,hi=some y->∃v,vh=some v/\rep S w y v)->(hi=none->vh=none) ->
   pC P S H' w z (Instr.sliceAt t u O vh none)):=by
 unfold asl at h;split at h
 ·rename_i k;split at h
  ·rename_i r e sz aa hk he;obtain⟨L,hz⟩:=vK he;split at h
   ·rename_i ka a kb b;refine⟨_,h.2,fun hg u O vh J hl _ hh _=>?_⟩;obtain⟨⟨h0,h1,h2⟩,Z⟩:=h.1 hg;obtain⟨v,rfl,F⟩:=hl _ rfl;obtain⟨v',rfl,ac⟩:=hh _ rfl;simp only[rep]at F ac J;subst F ac;obtain⟨_,rfl,ad,n,c,E⟩:=J;obtain⟨q1,q2,q3⟩:=Ez (a:=a.toNat) (b:=b.toNat) hH hk E (by omega) (by omega);rw[E];refine⟨_,q3,fun w' _=>?_⟩;rw[run_sliceAt_slice w' t _ _ _ _ L,run_slice_lh w' t ad n c L ka kb a b h0 h1 (by omega),hz,Z];rfl
   ·rename_i ka a;refine⟨_,h.2,fun hg u O vh J hl _ _ hh=>?_⟩;obtain⟨⟨h0,h1⟩,Z⟩:=h.1 hg;obtain⟨v,rfl,F⟩:=hl _ rfl;have:=hh rfl;subst this;simp only[rep]at F J;subst F;obtain⟨_,rfl,ad,n,c,E⟩:=J;obtain⟨q1,q2,q3⟩:=Ez (a:=a.toNat) (b:=r.es.length) hH hk E (by omega) (by omega);rw[E];refine⟨_,q3,fun w' _=>?_⟩;rw[run_sliceAt_slice w' t _ _ _ _ L,run_slice_l w' t ad n c L ka a h0 (by omega),hz,Z,q1];rfl
   ·rename_i kb b;refine⟨_,h.2,fun hg u O vh J _ hl hh _=>?_⟩;obtain⟨⟨h0,h1⟩,Z⟩:=h.1 hg;obtain⟨v,rfl,F⟩:=hh _ rfl;have:=hl rfl;subst this;simp only[rep]at F J;subst F;obtain⟨_,rfl,ad,n,c,E⟩:=J;obtain⟨q1,q2,q3⟩:=Ez (a:=0) (b:=b.toNat) hH hk E (by omega) (by omega);rw[E];refine⟨_,q3,fun w' _=>?_⟩;rw[run_sliceAt_slice w' t _ _ _ _ L,run_slice_h w' t ad n c L kb b h0 (by omega),hz,Z];rfl
   ·exact h.elim
  ·exact h.elim
 ·rename_i k a b;split at h
  ·rename_i r e sz aa hk he;obtain⟨L,hz⟩:=vK he;split at h
   ·rename_i kl l;refine⟨_,h.2,fun hg u O vh J hl _ _ hh=>?_⟩;obtain⟨⟨h0,h1⟩,Z⟩:=h.1 hg;obtain⟨v,rfl,F⟩:=hl _ rfl;have:=hh rfl;subst this;simp only[rep]at F J;subst F;obtain⟨af,ad,n,c,ab,cc,E,rfl,an,ai,M,ag,ae,ak,am⟩:=J;have hR:=hH k r hk;refine⟨sliced ab l.toNat (b-a) cc r.sz,?_,fun w' _=>?_⟩
    ·simp only[rep,sliced];refine⟨af,ad,n,c,_,_,E,congrArg (fun m=>Value.slice _ m _) (by omega),by omega,ai,fun hc=>?_,fun ha=>?_,ae,by omega,by omega⟩
     ·obtain⟨g,rfl,rfl⟩:=M (by omega);refine⟨g,rfl,?_⟩;rw[if_neg (by omega)];simp[Addr.add_lit,hR.sz,Nat.add_mul]
     ·have ah:a=0:=by omega
      have aj:l.toNat=0:=by omega
      have e1:=ag ah;subst e1;rw[aj];split
      ·rfl
      ·rename_i al;obtain⟨g,e1,e2⟩:=M (by omega);rw[e1];simp[Addr.add_lit]
    ·rw[run_sliceAt_slice w' t _ _ _ _ L,run_slice_l w' t ab (b-a) cc L kl l h0 (by omega),hz,Z];rfl
   ·exact h.elim
  ·exact h.elim
 ·exact E7 h
def Fy{t:TypeId}{x i:AV}(h:rG P G t x i K):
  ∃z,K z/\(gt G->∀u v,rep S w x u->rep S w i v->pC P S H w z (Instr.index t u v)):=by
 unfold rG at h;split at h
 ·rename_i s k n;split at h
  ·rename_i hs;refine⟨_,h.2,fun L u v J F=>?_⟩;obtain⟨h0,h1⟩:=h.1 L;simp only[rep]at J F;subst J F;refine eP gM fun w'=>?_
   rw[run_index_string w' t s k n (dX hs),dif_pos ⟨h0,h1⟩];have M:n.toNat<s.data.size:=by have:s.size=s.data.size:=rfl;omega
   congr 4
   rw[Array.getD,dif_pos M];rfl
  ·exact h.elim
 ·rename_i cs k n;split at h
  ·rename_i m s l ha;obtain⟨e,aa,J,hi,rfl,_,hl⟩:=DJ ha;obtain⟨z,hz,hd⟩:=yS (S:=S) (H:=H) (w:=w) hl h.2;refine⟨z,hz,fun L u v Z F=>?_⟩;obtain⟨h0,h1⟩:=h.1 L;obtain⟨cs',rfl,O⟩:=hd L u Z;simp only[rep]at F;subst F;obtain⟨r,hr,E⟩:=O;refine⟨r,hr,fun w' hw=>?_⟩;have:=E w' hw;simp[Instr.index,asIntOf,run_underlying J,h0,h1,sizeOf,typeInfo,hi];simpa using this
  ·exact h.elim
 ·exact h.elim
def opB(n:Nat):Operand->Bool
 | .tmp t=>decide (t<n)
 | _=>true
def FR(S:Sg)(w:World)(ρ:Env)(a:Act):Prop:=∀t,t<a.tmps.size->rep S w (ρ t) (a.tmps.getD t undef)
def bQ{ρ:Env}{a:Act}(hF:FR S w ρ a){x:Operand}(u:opB a.tmps.size x=true):rep S w (aev ρ x) (a.eval x):=by
 cases x with
 | tmp t=>simp only[opB,decide_eq_true_eq]at u;exact hF t u
 | const v=>exact xT v
 | global g=>trivial
 | func f=>exact gM
def Kg{ρ:Env}{a:Act}(hF:FR S w ρ a){x:Operand}(u:opB a.tmps.size x=true):rep S w (FD ρ x) (a.eval x):=by
 cases x with
 | const v=>exact gM
 | tmp t=>exact bQ hF u
 | global g=>exact bQ hF u
 | func f=>exact bQ hF u
def zH{ρ:Env}{a:Act}(hF:FR S w ρ a):∀(l:List Operand),(∀x∈l,opB a.tmps.size x=true)->aR S w (l.map (FD ρ)) (l.map a.eval)
 | [],_=>rfl
 | x::l,h=>by simp only[List.map_cons,aR];exact⟨_,_,rfl,Kg hF (h x (by simp)),zH hF l fun y u=>h y (by simp[u])⟩
def jN{ρ:Env}{a:Act}(hF:FR S w ρ a):∀(l:List (Nat×Operand)) {K:List (Nat×List AV)->Prop},(∀p∈l,opB a.tmps.size p.2=true)->kJ G ρ l K ->
  ∃E,K E/\(gt G->E.length=(l.map fun p=>(p.1,a.eval p.2)).length /\
   ∀(j i:Nat) (c:List AV),E[j]?=some (i,c)->∃(v:Value) (l':List Value),(l.map fun p=>(p.1,a.eval p.2))[j]?=some (i,v)/\v.cells=List.toArray l'/\aR S w c l'/\∀u∈l',u.oneCell'=true)
 | [],K,_,h=>⟨[],h,fun _=>⟨rfl,by simp⟩⟩
 | (i,x)::rest,K,hb,h=>by
  simp only[kJ]at h;obtain⟨y,h,hy⟩:=aK (S:=S) (w:=w) h;obtain⟨cs,h,J⟩:=qX (S:=S) (w:=w) h;obtain⟨E,O,F⟩:=jN hF rest (fun p hp=>hb p (by simp[hp])) h;refine⟨_,O,fun M=>?_⟩;obtain⟨Z,e2⟩:=F M;refine⟨by simpa using Z,fun j k c L=>?_⟩;cases j with
  | zero=>simp at L;obtain⟨rfl,rfl⟩:=L;obtain⟨l',f1,f2,f3⟩:=J _ (hy M _ (bQ hF (hb (i,x) (by simp))));exact⟨_,l',by simp,f1,f2,f3⟩
  | succ j=>simpa using e2 j k c (by simpa using L)
def oP{t:TypeId}{i:TypeInfo}{O:Value}{z:List AV}{pl:List (Nat×Nat)}(hi:P.info? t=some i)(M:i.zero=some O)(h1:∀u∈O.cells.toList,u.oneCell'=true)(hr:aR S w z O.cells.toList)(L:dF P t=some pl){E:List (Nat×List AV)}{vs:List (Nat×Value)}{cs:List AV}
  (hf:lP pl z E=some cs) (hl:E.length=vs.length)
  (hv:∀(j i:Nat) (c:List AV),E[j]?=some (i,c)->∃(v:Value) (l:List Value),vs[j]?=some (i,v)/\v.cells=List.toArray l/\aR S w c l/\∀u∈l,u.oneCell'=true):
  ∃J,P.built t vs=some J/\aR S w cs J.toList/\∀v∈J.toList,v.oneCell'=true:=by
 unfold dF at L;split at L
 ·rename_i fs Z;obtain⟨J,f1,f2,f3⟩:=tJ (place:=fun i=>pl.toArray[i]?) (fun i on h=>by simpa using h) E vs _ O.cells cs hf hr h1 hl hv;refine⟨J,?_,f2,f3⟩;unfold Program.built;simp only[hi,Z,M,L];exact f1
 ·rename_i n e Z;cases F:P.info? e with
  | none=>simp[F]at L
  | some ie=>
   simp[F]at L;obtain⟨J,f1,f2,f3⟩:=tJ (place:=fun i=>some (i*ie.size,ie.size)) (fun i on h=>by
    rw[<-L]at h;simp only[List.getElem?_map,Option.map_eq_some_iff]at h;obtain⟨j,h,rfl⟩:=h;have aa:i<n:=by
     rcases Nat.lt_or_ge i n with h'|h'
     ·exact h'
     ·simp[List.getElem?_eq_none,h']at h
    simp[aa]at h;rw[h]) E vs _ O.cells cs hf hr h1 hl hv
   refine⟨J,?_,f2,f3⟩;unfold Program.built;simp only[hi,Z,M,F];exact f1
 ·simp at L
def FM{t:TypeId}{z:List AV}{L:List (Nat×Nat)}(hz:cN P t=some z)(hp:dF P t=some L){E:List (Nat×List AV)}{vs:List (Nat×Value)}{cs:List AV}
  (O:lP L z E=some cs) (M:E.length=vs.length)
  (hv:∀(j i:Nat) (c:List AV),E[j]?=some (i,c)->∃(v:Value) (l:List Value),vs[j]?=some (i,v)/\v.cells=List.toArray l/\aR S w c l/\∀u∈l,u.oneCell'=true):
  ∃J,P.built t vs=some J/\aR S w cs J.toList/\∀v∈J.toList,v.oneCell'=true:=by
 obtain⟨i,zv,hi,F,rfl,Z,_,h1⟩:=iW hz;exact oP hi F h1 (iD zv.cells.toList) hp O M hv
end
end Go.Aw
end
section
namespace Go.Aw
open Go.RowKit
section
variable{P:Program}{S:Sg}{H:aD}{w:World}{G:Option Bool}{K:AV->Prop}
def NN{a b:ByteArray}(h:a.toList=b.toList):a=b:=by rw[ByteArray.toList_eq,ByteArray.toList_eq]at h;exact ByteArray.ext (Array.toList_inj.1 h)
def Oh{t:TypeId}{u:TypeId×TypeId}(h:J2 P t=some u):P.underlying t=some (.map u.1 u.2):=by
 unfold J2 at h;split at h
 ·rename_i k e E;injection h with h;subst h;exact E
 ·simp at h
def CM{t:TypeId}{z:AV}(h:DH P t=some z):∃v,(∀w':World,(zeroValue t).run P w'=.ok v w')/\∀S w,rep S w z v:=by
 unfold DH at h;split at h
 ·rename_i i hi;split at h
  ·rename_i cs F;split at h
   ·rename_i E;injection h with h;subst h;refine⟨.agg cs,fun w'=>by simp[zeroValue,typeInfo,hi,F],fun S w=>?_⟩;simp only[rep];refine⟨cs.toList,by simp,iD _,fun u J=>List.all_eq_true.1 E u J⟩
   ·simp at h
  ·rename_i v _ F;split at h
   ·injection h with h;subst h;exact⟨v,fun w'=>by simp[zeroValue,typeInfo,hi,F],fun S w=>xT _⟩
   ·simp at h
  ·simp at h
 ·simp at h
def Dg{kt:TypeId}{x y:AV}{b:Bool}(h:rU P kt x y=some b){u v:Value}(hu:rep S w x u)(hv:rep S w y v):
  ∃d,P.underlying kt=some d/\Instr.sameNow d u v=some b/\(b=true->u=v/\∀n,Instr.sameBits (n+1) v u=true):=by
 unfold rU at h;split at h
 ·rename_i a c;simp only[rep]at hu hv;subst hu hv;split at h
  ·rename_i k M;unfold rF at h;split at h
   ·rename_i k1 a1 k2 F J e2;cases J;cases e2;split at h
    ·rename_i O;subst O;rcases gX M with⟨_,k',E⟩|⟨h0,_⟩|⟨h0,_⟩
     ·injection h with h;subst h;refine⟨_,E,by simp[Instr.sameNow],fun L=>?_⟩;have:a1=F:=by simpa using L
      subst this;exact⟨rfl,fun n=>by simp[Instr.sameBits]⟩
     ·simp at h0
     ·simp at h0
    ·simp at h
   ·rename_i a1 F J e2;cases J;cases e2;rcases gX M with⟨h0,_⟩|⟨_,E⟩|⟨h0,_⟩
    ·simp at h0
    ·injection h with h;have L:(a1 == F)=b:=by rw[beq_toListBytes];exact h
     refine⟨_,E,by simp[Instr.sameNow,L],fun Z=>?_⟩;have:a1=F:=NN (by rw[Z]at h;simpa using h);subst this;exact⟨rfl,fun n=>by simp[Instr.sameBits,beq_toListBytes]⟩
    ·simp at h0
   ·rename_i a1 F J e2;cases J;cases e2;rcases gX M with⟨h0,_⟩|⟨h0,_⟩|⟨_,E⟩
    ·simp at h0
    ·simp at h0
    ·injection h with h;subst h;refine⟨_,E,by simp[Instr.sameNow],fun L=>?_⟩;have:a1=F:=by simpa using L
     subst this;exact⟨rfl,fun n=>by simp[Instr.sameBits]⟩
   ·simp at h
  ·simp at h
 ·simp at h
def CX{kt:TypeId}{x:AV}{u:Value}{d:TypeDesc}(hd:P.underlying kt=some d)(Z:rep S w x u):∀(es:List (List AV)) (ms:List MapEntry) (i:Nat) {oi:Option Nat},gO S w i es ms->tM (rU P kt x) es i=some oi ->
  (oi=none->Instr.findNow d u ms i=some none)/\∀j,oi=some j->∃m cs,i<=j/\ms[j-i]?=some m/\es[j-i]?=some cs/\Instr.findNow d u ms i=some (some (j,m.val))/\m.key=u/\(∀n,Instr.sameBits (n+1) m.key u=true)/\m.born=j/\aR S w cs [m.key,m.val]
 | [],ms,i,oi,he,F=>by simp only[gO]at he;subst he;simp only[tM]at F;injection F with F;subst F;exact⟨fun _=>rfl,fun j h=>by simp at h⟩
 | cs::r,ms,i,oi,he,F=>by
  simp only[gO]at he;obtain⟨m,t,rfl,hb,M,ht⟩:=he;unfold tM at F;have hk:rep S w (cs.getD 0 .any) m.key:=by
   cases cs with
   | nil=>simp[aR]at M
   | cons c cs=>simp only[aR]at M;obtain⟨_,_,e,h1,_⟩:=M;injection e with e1 e2;subst e1;simpa using h1
  split at F
  ·rename_i J;injection F with F;subst F;obtain⟨d',E,h1,O⟩:=Dg J Z hk;rw[hd]at E;injection E with E;subst E;refine⟨fun h=>by simp at h,fun j L=>?_⟩;injection L with L;subst L;exact⟨m,cs,Nat.le_refl _,by simp,by simp,by simp[Instr.findNow,h1],(O rfl).1.symm,(O rfl).2,hb,M⟩
  ·rename_i J;obtain⟨d',E,h1,O⟩:=Dg J Z hk;rw[hd]at E;injection E with E;subst E;obtain⟨g1,g2⟩:=CX hd Z r t (i+1) ht F;refine⟨fun h=>by simp[Instr.findNow,h1,g1 h],fun j L=>?_⟩;obtain⟨m',cs',q1,q2,q3,q4,q5⟩:=g2 j L;have e:j-i=(j-(i+1))+1:=by omega
   exact⟨m',cs',by omega,by rw[e];simpa using q2,by rw[e];simpa using q3,by simp[Instr.findNow,h1,q4],q5⟩
  ·simp at F
def sW:∀(i:Nat) (es:List (List AV)) (ms:List MapEntry),gO S w i es ms->ms.length=es.length
 | _,[],ms,h=>by simp only[gO]at h;simp[h]
 | i,cs::r,ms,h=>by simp only[gO]at h;obtain⟨m,t,rfl,_,_,u⟩:=h;simp[sW (i+1) r t u]
def I2:∀(i:Nat) (es:List (List AV)) (ms:List MapEntry) (j:Nat),gO S w i es ms->j<es.length->∃m,ms[j]?=some m/\m.born=i+j/\aR S w (es.getD j []) [m.key,m.val]
 | _,[],_,_,_,h=>by simp at h
 | i,cs::r,ms,0,h,_=>by simp only[gO]at h;obtain⟨m,t,rfl,h1,J,_⟩:=h;exact⟨m,by simp,by simpa using h1,by simpa using J⟩
 | i,cs::r,ms,j+1,h,hj=>by simp only[gO]at h;obtain⟨m,t,rfl,_,_,F⟩:=h;obtain⟨u,E,L,g3⟩:=I2 (i+1) r t j F (by simpa using hj);exact⟨u,by simpa using E,by omega,by simpa using g3⟩
def wB:∀(i:Nat) (es:List (List AV)) (ms:List MapEntry) (j:Nat) {cs:List AV} {m:MapEntry},gO S w i es ms->m.born=i+j->aR S w cs [m.key,m.val]->gO S w i (es.set j cs) (ms.set j m)
 | _,[],ms,_,_,_,h,_,_=>by simp only[gO]at h;subst h;simp[gO]
 | i,c::r,ms,0,cs,m,h,hb,hr=>by simp only[gO]at h;obtain⟨E,t,rfl,_,_,u⟩:=h;simp only[List.set_cons_zero,gO];exact⟨m,t,rfl,by simpa using hb,hr,u⟩
 | i,c::r,ms,j+1,cs,m,h,hb,hr=>by simp only[gO]at h;obtain⟨E,t,rfl,h1,F,u⟩:=h;simp only[List.set_cons_succ,gO];exact⟨E,t.set j m,rfl,h1,F,wB (i+1) r t j u (by omega) hr⟩
def wF:∀(i:Nat) (es:List (List AV)) (ms:List MapEntry) {cs:List AV} {m:MapEntry},gO S w i es ms->m.born=i+es.length->aR S w cs [m.key,m.val]->gO S w i (es++[cs]) (ms++[m])
 | i,[],ms,cs,m,h,hb,hr=>by simp only[gO]at h;subst h;simp only[List.nil_append,gO];exact⟨m,[],rfl,by simpa using hb,hr,rfl⟩
 | i,c::r,ms,cs,m,h,hb,hr=>by simp only[gO]at h;obtain⟨F,t,rfl,h1,u,E⟩:=h;simp only[List.cons_append,gO];exact⟨F,t++[m],rfl,h1,u,wF (i+1) r t E (by simp at hb;omega) hr⟩
def sK{E:TypeId}{x:AV}(h:lC P E x=true){u:Value}(F:rep S w x u)(e:Bool)(n:Nat)(w':World):(∃d,P.underlying E=some d)/\(Instr.checkKey e (n+1) E u).run P w'=.ok () w':=by
 unfold lC at h;split at h
 all_goals first|(simp at h;done)|skip
 all_goals
  simp only[beq_iff_eq]at h;simp only[rep]at F;subst F;rcases gX h with⟨h0,k',hk'⟩|⟨h0,hk'⟩|⟨h0,hk'⟩ <;> first
   | (simp at h0;done)
   | exact⟨⟨_,hk'⟩,by unfold Instr.checkKey;simp only[Sem.run_bind,run_underlying hk',Result.andThen];rfl⟩
def I0{t:TypeId}{E:TypeId×TypeId}{x:AV}{r:Row}{k:Nat}{u:Value}{F:Option Nat}(ht:J2 P t=some E)(M:lC P E.1 x=true)(hf:tM (rU P E.1 x) r.es 0=some F)(hm:Q4 S w k r)(J:rep S w x u):
  ∃g ms,S.loc k=.map (some g)/\w.heap[g]?=some (.map (List.toArray ms) ms.length)/\gO S w 0 r.es ms/\P.underlying t=some (.map E.1 E.2)/\(∀e (w':World),(Instr.checkKey e 10000 E.1 u).run P w'=.ok () w') /\
   ((F=none/\∀w':World,(Instr.findKey E.1 u ms).run P w'=.ok none w') \/
   ∃j m cs,F=some j/\ms[j]?=some m/\r.es[j]?=some cs/\(∀w':World,(Instr.findKey E.1 u ms).run P w'=.ok (some (j,m.val)) w')/\m.key=u/\(∀n,Instr.sameBits (n+1) m.key u=true)/\m.born=j/\aR S w cs [m.key,m.val]):=by
 obtain⟨g,ms,h1,h2,O,_⟩:=hm;obtain⟨⟨d,L⟩,_⟩:=sK M J true 0 w;refine⟨g,ms,h1,h2,O,Oh ht,fun e w'=>(sK M J e 9999 w').2,?_⟩;obtain⟨f1,Z⟩:=CX L J r.es ms 0 O hf;cases F with
 | none=>exact .inl ⟨rfl,fun w'=>by simp[Instr.findKey,run_underlying L,f1 rfl]⟩
 | some j=>obtain⟨m,cs,_,q2,q3,q4,q5,q6,q7,q8⟩:=Z j rfl;exact .inr ⟨j,m,cs,rfl,by simpa using q2,by simpa using q3,fun w'=>by simp[Instr.findKey,run_underlying L,q4],q5,q6,q7,q8⟩
def Bv{cs:List AV}{a b:Value}(h:aR S w cs [a,b]):∃x y,cs=[x,y]/\rep S w x a/\rep S w y b:=by
 cases cs with
 | nil=>simp[aR]at h
 | cons x cs=>
  simp only[aR]at h;obtain⟨u,t,e,h1,F⟩:=h;injection e with E e2;subst E e2;cases cs with
  | nil=>simp[aR]at F
  | cons y cs=>
   simp only[aR]at F;obtain⟨u,t,e,L,J⟩:=F;injection e with E e2;subst E e2;cases cs with
   | nil=>exact⟨x,y,rfl,h1,L⟩
   | cons _ _=>simp[aR]at J
def Cg{t:TypeId}{x L:AV}{ok:Bool}(hH:oU S w H)(h:nX P H t x L ok K):
  ∃z,K z/\(gt G->∀u v,rep S w x u->rep S w L v->pC P S H w z (Instr.lookup t u v ok)):=by
 unfold nX yU at h;split at h
 ·rename_i j;split at h
  ·rename_i r kt hj ht;split at h
   ·rename_i oi hf;obtain⟨hp,h⟩:=h;split at h
    ·rename_i z hz;refine⟨_,h,fun _ u v hu hv=>?_⟩;simp only[rep]at hu;obtain⟨_,rfl,g0,aa⟩:=hu;obtain⟨g,ms,h1,h2,h3,Z,h5,O⟩:=I0 ht hp hf ((hH j r hj).mp aa) hv;obtain⟨zv,M,J⟩:=CM hz;have E:∀w',Agree S H w w'->w'.heap[g]?=some (.map (List.toArray ms) ms.length):=fun w' F=>(F.own j r hj g (by rw[h1];rfl)).trans h2
     rcases O with⟨rfl,O⟩|⟨i,m,cs,rfl,q1,q2,q3,q4,q5,q6,q7⟩
     ·cases ok with
      | false=>refine⟨zv,J S w,fun w' F=>?_⟩;simp[Instr.lookup,run_underlying Z,h1,MapKept.run_getObj_map (E w' F),h5,O,M,E4]
      | true=>
       refine⟨.tuple #[zv,.bool false],?_,fun w' F=>?_⟩
       ·simp only[E4,if_true,rep,aR];exact⟨[zv,.bool false],by simp,_,_,rfl,J S w,_,_,rfl,rfl,rfl⟩
       ·simp[Instr.lookup,run_underlying Z,h1,MapKept.run_getObj_map (E w' F),h5,O,M,E4]
     ·obtain⟨xk,xv,rfl,r1,r2⟩:=Bv q7;have e1:(r.es.getD i []).getD 1 .any=xv:=by simp[List.getD,q2]
      cases ok with
      | false=>refine⟨m.val,by simp only[E4,e1];exact r2,fun w' F=>?_⟩;simp[Instr.lookup,run_underlying Z,h1,MapKept.run_getObj_map (E w' F),h5,q3]
      | true=>
       refine⟨.tuple #[m.val,.bool true],?_,fun w' F=>?_⟩
       ·simp only[E4,if_true,e1,rep,aR];exact⟨[m.val,.bool true],by simp,_,_,rfl,r2,_,_,rfl,rfl,rfl⟩
       ·simp[Instr.lookup,run_underlying Z,h1,MapKept.run_getObj_map (E w' F),h5,q3]
    ·exact h.elim
   ·exact h.elim
  ·exact h.elim
 ·exact h.elim
end
end Go.Aw
end
section
namespace Go.Aw
open Go.RowKit
section
variable{P:Program}{S:Sg}{H:aD}{w:World}{G:Option Bool}{K:AV->Prop}
def oC{s:Sem Value}{v:Value}{w':World}(h:s.run P w'=.ok v w'):(do pure (Next.value (<-s)):Sem Next).run P w'=.ok (.value v) w':=by simp[h]
def gT(P:Program)(S:Sg)(H:aD)(w:World)(a:Act)(op:Op)(z:AV):Prop:=
 ∃v,rep S w z v/\∀w',Agree S H w w'->∀o:Oper,o.op=op->(execOp a.eval o).run P w'=.ok (.value v) w'
def gT.of_does{a:Act}{op:Op}{z:AV}{s:Sem Value}(u:pC P S H w z s)(F:∀o:Oper,o.op=op->execOp a.eval o=(do pure (Next.value (<-s)):Sem Next)):gT P S H w a op z:=by obtain⟨v,E,M⟩:=u;exact⟨v,E,fun w' J o L=>by rw[F o L];exact oC (M w' J)⟩
def jF{G:Option Bool}{ρ:Env}{a:Act}(hF:FR S w ρ a):∀(l:List Operand) {K:List AV->Prop},(∀x∈l,opB a.tmps.size x=true)->uL G ρ l K ->
  ∃E,K E/\(gt G->aR S w E (l.map a.eval))
 | [],K,_,h=>⟨[],h,fun _=>by simp[aR]⟩
 | x::rest,K,hb,h=>by simp only[uL]at h;obtain⟨y,h,M⟩:=aK (S:=S) (w:=w) h;obtain⟨E,J,u⟩:=jF hF rest (fun x L=>hb x (by simp[L])) h;refine⟨_,J,fun F=>?_⟩;simp only[List.map_cons,aR];exact⟨_,_,rfl,M F _ (bQ hF (hb x (by simp))),u F⟩
def zP{ρ:Env}{a:Act}{op:Op}(hb:∀x∈op.operands,opB a.tmps.size x=true)(hF:FR S w ρ a)(hH:oU S w H)(h:eR P G ρ H op K):
  ∃z,K z/\(gt G->gT P S H w a op z):=by
 have ev:=fun x L=>bQ hF (hb x L)
 cases op <;> simp only[eR]at h <;> simp only[Op.operands]at ev hb <;> try exact h.elim
 case move x=>obtain⟨z,J,M⟩:=aK (S:=S) (w:=w) h;exact⟨z,J,fun E=>⟨_,M E _ (ev x (by simp)),fun w' _ o F=>by simp[execOp,F]⟩⟩
 case assign x=>obtain⟨z,J,M⟩:=aK (S:=S) (w:=w) h;exact⟨z,J,fun E=>⟨_,M E _ (ev x (by simp)),fun w' _ o F=>by simp[execOp,F]⟩⟩
 case pick c x y=>
  obtain⟨zc,h,hc⟩:=aK (S:=S) (w:=w) h;split at h
  ·rename_i b;obtain⟨z,J,M⟩:=GH (S:=S) (w:=w) h;refine⟨z,J,fun E=>?_⟩;have e:=Qo (hc E _ (ev c (by simp)));refine⟨_,M E _ _ (ev x (by simp)) (ev y (by simp)),fun w' _ o F=>?_⟩;simp[execOp,F,e,asBool]
  ·exact h.elim
 case build t parts=>
  obtain⟨ps,h,ao⟩:=jN hF parts.toList (fun p hp=>hb p.2 (by simpa using⟨p.1,by simpa using hp⟩)) h;unfold qM at h;split at h
  ·rename_i z pl J al;split at h
   ·rename_i cs am;refine⟨_,h,fun E=>?_⟩;obtain⟨e1,e2⟩:=ao E;obtain⟨A',f1,f2,f3⟩:=FM (S:=S) (w:=w) J al am e1 e2;refine⟨.agg A',by simp only[rep];exact⟨A'.toList,by simp,f2,f3⟩,fun w' _ o F=>?_⟩;have:(parts.map fun(p:Nat×Operand)=>(p.1,a.eval p.2)).toList=parts.toList.map fun p=>(p.1,a.eval p.2):=by simp
    rw[<-this]at f1;simp only[execOp,F];exact oC (run_build w' t _ A' f1)
   ·exact h.elim
  ·exact h.elim
 case load t x=>
  split at h
  ·rename_i l hl;obtain⟨y,h,M⟩:=aK (S:=S) (w:=w) h;obtain⟨z,J,Z⟩:=yX hl hH h;exact⟨z,J,fun E=>gT.of_does (Z E _ (M E _ (ev x (by simp)))) (fun o F=>by simp[execOp,F])⟩
  ·exact h.elim
 case nilCheck x=>
  obtain⟨y,h,M⟩:=aK (S:=S) (w:=w) h;split at h
  ·refine⟨_,h,fun E=>?_⟩;have e:=M E _ (ev x (by simp));refine⟨_,e,fun w' _ o F=>?_⟩;simp only[rep]at e;obtain⟨b,p,e,_⟩:=e;simp[execOp,F,e]
  ·refine⟨_,h,fun E=>?_⟩;have e:=M E _ (ev x (by simp));refine⟨_,e,fun w' _ o F=>?_⟩;simp only[rep]at e;obtain⟨_,b,p,c,_,e⟩:=e;simp[execOp,F,e]
  ·obtain⟨h0,cs,off,h⟩:=h;exact⟨_,h,fun E=>(h0 E).elim⟩
  ·exact h.elim
 case binOp op t x y t'=>
  split at h
  ·rename_i af;have M:y=.const (.slice none 0 0):=by
    unfold mN at af;split at af
    ·rfl
    ·simp at af
   subst M;obtain⟨x',h,L⟩:=aK (S:=S) (w:=w) h;obtain⟨an,h⟩:=h;obtain⟨e,ak⟩:=oE an;have O:∀(b:Bool) (ad:Option Addr) (n c:Nat),a.eval x=.slice ad n c->(op=.eql/\b=ad.isNone\/op=.neq/\b= !ad.isNone)->gT P S H w a (.binOp op t x (.const (.slice none 0 0)) t') (.v (.bool b)):=by
    intro b ad n c L hb;refine⟨.bool b,by simp only[rep],fun w' _ o F=>?_⟩;have ec:a.eval (.const (.slice none 0 0))=.slice none 0 0:=rfl;simp only[execOp,F,L,ec];have E:(eqGuard op t x (.const (.slice none 0 0)) (.slice ad n c) (.slice none 0 0)).run P w'=.ok () w':=eO op t x _ _ _ (by simp) (by simp) w';have he:(Op.equal t (.slice ad n c) (.slice none 0 0)).run P w'=.ok ad.isNone w':=by have e0:Op.equal t (.slice ad n c) (.slice none 0 0)=Op.equalIn (9999+1) t (.slice ad n c) (.slice none 0 0):=rfl;rw[e0];unfold Op.equalIn;cases ad <;> simp[run_underlying ak]
    rcases hb with⟨rfl,rfl⟩|⟨rfl,rfl⟩
    ·exact oC (by simp only[Sem.run_bind,E,Result.andThen_ok];simp[binOp,he])
    ·exact oC (by simp only[Sem.run_bind,E,Result.andThen_ok];simp[binOp,he])
   by_cases E:gt G
   ·have ex:=L E _ (ev x (by simp));unfold lG at h;split at h
    ·simp only[rep]at ex;obtain⟨ad,n,c,hv,hl,_,_,hc⟩:=ex;cases ad with
     | none=>
      rcases hc with hc|⟨b,o,sz,hc,_⟩
      ·exact⟨_,h.1 hc,fun _=>O _ _ _ _ hv (.inl ⟨rfl,rfl⟩)⟩
      ·simp at hc
     | some ad=>exact⟨_,h.2,fun _=>O _ _ _ _ hv (.inl ⟨rfl,rfl⟩)⟩
    ·simp only[rep]at ex;obtain⟨ad,n,c,hv,hl,_,_,hc⟩:=ex;cases ad with
     | none=>
      rcases hc with hc|⟨b,o,sz,hc,_⟩
      ·exact⟨_,h.1 hc,fun _=>O _ _ _ _ hv (.inr ⟨rfl,rfl⟩)⟩
      ·simp at hc
     | some ad=>exact⟨_,h.2,fun _=>O _ _ _ _ hv (.inr ⟨rfl,rfl⟩)⟩
    ·simp only[rep]at ex;obtain⟨_,M,ad,n,c,hv⟩:=ex;cases ad with
     | none=>exact⟨_,h.1 (Ed hH (M.symm.trans hv)),fun _=>O _ _ _ _ hv (.inl ⟨rfl,rfl⟩)⟩
     | some ad=>exact⟨_,h.2,fun _=>O _ _ _ _ hv (.inl ⟨rfl,rfl⟩)⟩
    ·simp only[rep]at ex;obtain⟨_,M,ad,n,c,hv⟩:=ex;cases ad with
     | none=>exact⟨_,h.1 (Ed hH (M.symm.trans hv)),fun _=>O _ _ _ _ hv (.inr ⟨rfl,rfl⟩)⟩
     | some ad=>exact⟨_,h.2,fun _=>O _ _ _ _ hv (.inr ⟨rfl,rfl⟩)⟩
    ·simp only[rep]at ex;exact⟨_,h,fun _=>O _ none 0 0 ex (.inl ⟨rfl,rfl⟩)⟩
    ·simp only[rep]at ex;exact⟨_,h,fun _=>O _ none 0 0 ex (.inr ⟨rfl,rfl⟩)⟩
    ·exact h.elim
   ·unfold lG at h;split at h
    ·exact⟨_,h.2,fun aa=>absurd aa E⟩
    ·exact⟨_,h.2,fun aa=>absurd aa E⟩
    ·exact⟨_,h.2,fun aa=>absurd aa E⟩
    ·exact⟨_,h.2,fun aa=>absurd aa E⟩
    ·exact⟨_,h,fun aa=>absurd aa E⟩
    ·exact⟨_,h,fun aa=>absurd aa E⟩
    ·exact h.elim
  split at h
  ·rename_i _ ae;have M:y=.const .nilIface:=by
    unfold Lt at ae;split at ae
    ·rfl
    ·simp at ae
   subst M;obtain⟨x',h,L⟩:=aK (S:=S) (w:=w) h;have aj:∀w',CV P t=true->(Op.equal t .nilIface .nilIface).run P w'=.ok true w':=fun w' ht=>by
    have hu:∃ms,P.underlying t=some (.interface ms):=by
     unfold CV at ht;split at ht
     ·exact⟨_,by assumption⟩
     ·simp at ht
    obtain⟨ms,hu⟩:=hu;have e0:Op.equal t .nilIface .nilIface=Op.equalIn (9999+1) t .nilIface .nilIface:=rfl;rw[e0];unfold Op.equalIn;simp[run_underlying hu]
   have ec:a.eval (.const .nilIface)=.nilIface:=rfl;unfold vA at h;split at h
   ·refine⟨_,h.2,fun E=>⟨.bool true,by simp only[rep],fun w' _ o F=>?_⟩⟩;have ex:=L E _ (ev x (by simp));simp only[rep]at ex;have ag:(eqGuard .eql t x (.const .nilIface) .nilIface .nilIface).run P w'=.ok () w':=by simp[eqGuard]
    simp only[execOp,F,ex,ec];exact oC (by simp only[Sem.run_bind,ag,Result.andThen_ok];simp[binOp,aj w' h.1])
   ·refine⟨_,h.2,fun E=>⟨.bool false,by simp only[rep],fun w' _ o F=>?_⟩⟩;have ex:=L E _ (ev x (by simp));simp only[rep]at ex;have ag:(eqGuard .neq t x (.const .nilIface) .nilIface .nilIface).run P w'=.ok () w':=by simp[eqGuard]
    simp only[execOp,F,ex,ec];exact oC (by simp only[Sem.run_bind,ag,Result.andThen_ok];simp[binOp,aj w' h.1])
   ·exact h.elim
  obtain⟨x',h,L⟩:=aK (S:=S) (w:=w) h;obtain⟨y',h,M⟩:=aK (S:=S) (w:=w) h;obtain⟨z,J,Z⟩:=JO (S:=S) (H:=H) (w:=w) h;exact⟨z,J,fun E=>gT.of_does (Z E _ _ (L E _ (ev x (by simp))) (M E _ (ev y (by simp))) x y) (fun o F=>by simp[execOp,F])⟩
 case unOp op t x=>obtain⟨x',h,L⟩:=aK (S:=S) (w:=w) h;obtain⟨z,J,Z⟩:=MW (P:=P) (S:=S) (H:=H) (w:=w) h;exact⟨z,J,fun E=>gT.of_does (Z _ (L E _ (ev x (by simp)))) (fun o F=>by simp[execOp,F])⟩
 case convert src dst x=>obtain⟨x',h,L⟩:=aK (S:=S) (w:=w) h;obtain⟨z,J,Z⟩:=He (S:=S) (H:=H) (w:=w) h;exact⟨z,J,fun E=>gT.of_does (Z _ (L E _ (ev x (by simp)))) (fun o F=>by simp[execOp,F])⟩
 case slice t x lo hi m=>
  cases m with
  | some m=>
   cases lo with
   | some lo=>
    cases hi with
    | none=>exact h.elim
    | some hi=>simp only at h;obtain⟨x',h,L⟩:=aK (S:=S) (w:=w) h;obtain⟨ai,h,ac⟩:=aK (S:=S) (w:=w) h;obtain⟨ah,h,ab⟩:=aK (S:=S) (w:=w) h;obtain⟨m',h,hm⟩:=aK (S:=S) (w:=w) h;obtain⟨z,J,Z⟩:=wI (S:=S) (w:=w) (H':=H) hH h;exact⟨z,J,fun E=>gT.of_does (Z E _ _ _ _ (L E _ (ev x (by simp))) (ac E _ (ev lo (by simp))) (ab E _ (ev hi (by simp))) (hm E _ (ev m (by simp)))) (fun o F=>by simp[execOp,F])⟩
   | none=>
    cases hi with
    | none=>exact h.elim
    | some hi=>simp only at h;obtain⟨x',h,L⟩:=aK (S:=S) (w:=w) h;obtain⟨ah,h,ab⟩:=aK (S:=S) (w:=w) h;obtain⟨m',h,hm⟩:=aK (S:=S) (w:=w) h;obtain⟨z,J,Z⟩:=zQ (S:=S) (w:=w) (H:=H) h;exact⟨z,J,fun E=>gT.of_does (Z E _ _ _ (L E _ (ev x (by simp))) (ab E _ (ev hi (by simp))) (hm E _ (ev m (by simp)))) (fun o F=>by simp[execOp,F])⟩
  | none=>
   simp only at h;obtain⟨x',h,L⟩:=aK (S:=S) (w:=w) h;cases lo with
   | some lo=>
    cases hi with
    | some hi=>
     obtain⟨ai,h,ac⟩:=aK (S:=S) (w:=w) h;obtain⟨ah,h,ab⟩:=aK (S:=S) (w:=w) h;obtain⟨z,J,Z⟩:=mD hH h;refine⟨z,J,fun E=>gT.of_does (Z E _ (some (a.eval lo)) (some (a.eval hi)) (L E _ (ev x (by simp))) ?_ (by simp) ?_ (by simp)) (fun o F=>by simp[execOp,F])⟩
     ·intro y M;injection M with M;subst M;exact⟨_,rfl,ac E _ (ev lo (by simp))⟩
     ·intro y M;injection M with M;subst M;exact⟨_,rfl,ab E _ (ev hi (by simp))⟩
    | none=>obtain⟨ai,h,ac⟩:=aK (S:=S) (w:=w) h;obtain⟨z,J,Z⟩:=mD hH h;refine⟨z,J,fun E=>gT.of_does (Z E _ (some (a.eval lo)) none (L E _ (ev x (by simp))) ?_ (by simp) (by simp) (by simp)) (fun o F=>by simp[execOp,F])⟩;intro y M;injection M with M;subst M;exact⟨_,rfl,ac E _ (ev lo (by simp))⟩
   | none=>
    cases hi with
    | some hi=>obtain⟨ah,h,ab⟩:=aK (S:=S) (w:=w) h;obtain⟨z,J,Z⟩:=mD hH h;refine⟨z,J,fun E=>gT.of_does (Z E _ none (some (a.eval hi)) (L E _ (ev x (by simp))) (by simp) (by simp) ?_ (by simp)) (fun o F=>by simp[execOp,F])⟩;intro y M;injection M with M;subst M;exact⟨_,rfl,ab E _ (ev hi (by simp))⟩
    | none=>exact h.elim
 case fieldAddr t x f=>obtain⟨x',h,L⟩:=aK (S:=S) (w:=w) h;obtain⟨z,J,Z⟩:=yE (G:=G) (S:=S) (H:=H) (w:=w) h;exact⟨z,J,fun E=>gT.of_does (Z E _ (L E _ (ev x (by simp)))) (fun o F=>by simp[execOp,F])⟩
 case field t x f=>
  split at h
  ·rename_i o l F;obtain⟨x',h,L⟩:=aK (S:=S) (w:=w) h;obtain⟨fs,fd,i,hu,hf,rfl,hi,_,hl⟩:=uM F;obtain⟨z,J,Z⟩:=yS (S:=S) (H:=H) (w:=w) hl h;refine⟨z,J,fun E=>?_⟩;obtain⟨cs,e,Z⟩:=Z E _ (L E _ (ev x (by simp)));refine gT.of_does (s:=Instr.field t (.agg cs) f) ?_ (fun o F=>by simp[execOp,F,e]);obtain⟨v,hv,hr⟩:=Z;refine⟨v,hv,fun w' ha=>?_⟩;simp[Instr.field,run_underlying hu,hf,asAgg,hr w' ha]
  ·exact h.elim
 case indexAddr t x i=>obtain⟨x',h,L⟩:=aK (S:=S) (w:=w) h;obtain⟨i',h,hi⟩:=aK (S:=S) (w:=w) h;obtain⟨z,J,Z⟩:=xS hH h;exact⟨z,J,fun E=>gT.of_does (Z E _ _ (L E _ (ev x (by simp))) (hi E _ (ev i (by simp)))) (fun o F=>by simp[execOp,F])⟩
 case index t x i=>obtain⟨x',h,L⟩:=aK (S:=S) (w:=w) h;obtain⟨i',h,hi⟩:=aK (S:=S) (w:=w) h;obtain⟨z,J,Z⟩:=Fy (S:=S) (H:=H) (w:=w) h;exact⟨z,J,fun E=>gT.of_does (Z E _ _ (L E _ (ev x (by simp))) (hi E _ (ev i (by simp)))) (fun o F=>by simp[execOp,F])⟩
 case extract x i=>
  obtain⟨x',h,L⟩:=aK (S:=S) (w:=w) h;split at h
  ·rename_i vs;refine⟨_,h.2,fun E=>?_⟩;have e:=L E _ (ev x (by simp));simp only[rep]at e;obtain⟨l,e,hl⟩:=e;obtain⟨u,h1,h2⟩:=wX vs l i hl (h.1 E);exact⟨u,h2,fun w' _ o F=>by simp[execOp,F,e,Instr.extract,h1]⟩
  ·exact h.elim
 case lookup t x i ok=>obtain⟨x',h,L⟩:=aK (S:=S) (w:=w) h;obtain⟨i',h,hi⟩:=aK (S:=S) (w:=w) h;obtain⟨z,J,Z⟩:=Cg (G:=G) hH h;exact⟨z,J,fun E=>gT.of_does (Z E _ _ (L E _ (ev x (by simp))) (hi E _ (ev i (by simp)))) (fun o F=>by simp[execOp,F])⟩
 case makeFunc f first cap=>
  cases f <;> simp only at h <;> try exact h.elim
  rename_i f;obtain⟨hf,h⟩:=h;subst hf;obtain⟨ys,J,ap⟩:=jF hF cap.toList (fun x L=>hb x (by simp[Array.mem_toList_iff.1 L])) h;refine⟨_,J,fun E=>⟨.func (.func f) #[] (cap.map a.eval),?_,fun w' _ o F=>by simp[execOp,F,Instr.makeFunc]⟩⟩;simp only[rep];exact⟨cap.toList.map a.eval,by rw[<-Array.toList_map],ap E⟩
def wY{H':aD}{ρ:Env}{a:Act}{t:TypeId}{x:Operand}{lo hi m:Option Operand}(hb:∀y∈(Op.slice t x lo hi m).operands,opB a.tmps.size y=true)(hF:FR S w ρ a)(hH:oU S w H)(h:eR P G ρ H (.slice t x lo hi m) K):
  ∃z,K z/\(gt G->gT P S H' w a (.slice t x lo hi m) z):=by
 have ev:=fun x M=>bQ hF (hb x M)
 simp only[eR]at h;simp only[Op.operands]at ev hb;cases m with
 | some m=>
  cases lo with
  | some lo=>
   cases hi with
   | none=>exact h.elim
   | some hi=>simp only at h;obtain⟨x',h,M⟩:=aK (S:=S) (w:=w) h;obtain⟨ab,h,J⟩:=aK (S:=S) (w:=w) h;obtain⟨aa,h,E⟩:=aK (S:=S) (w:=w) h;obtain⟨m',h,hm⟩:=aK (S:=S) (w:=w) h;obtain⟨z,O,L⟩:=wI (S:=S) (w:=w) (H':=H') hH h;exact⟨z,O,fun u=>gT.of_does (L u _ _ _ _ (M u _ (ev x (by simp))) (J u _ (ev lo (by simp))) (E u _ (ev hi (by simp))) (hm u _ (ev m (by simp)))) (fun o Z=>by simp[execOp,Z])⟩
  | none=>
   cases hi with
   | none=>exact h.elim
   | some hi=>simp only at h;obtain⟨x',h,M⟩:=aK (S:=S) (w:=w) h;obtain⟨aa,h,E⟩:=aK (S:=S) (w:=w) h;obtain⟨m',h,hm⟩:=aK (S:=S) (w:=w) h;obtain⟨z,O,L⟩:=zQ (S:=S) (w:=w) (H:=H') h;exact⟨z,O,fun u=>gT.of_does (L u _ _ _ (M u _ (ev x (by simp))) (E u _ (ev hi (by simp))) (hm u _ (ev m (by simp)))) (fun o Z=>by simp[execOp,Z])⟩
 | none=>
  simp only at h;obtain⟨x',h,M⟩:=aK (S:=S) (w:=w) h;cases lo with
  | some lo=>
   cases hi with
   | some hi=>
    obtain⟨ab,h,J⟩:=aK (S:=S) (w:=w) h;obtain⟨aa,h,E⟩:=aK (S:=S) (w:=w) h;obtain⟨z,O,L⟩:=mD hH h;refine⟨z,O,fun u=>gT.of_does (L u _ (some (a.eval lo)) (some (a.eval hi)) (M u _ (ev x (by simp))) ?_ (by simp) ?_ (by simp)) (fun o Z=>by simp[execOp,Z])⟩
    ·intro y F;injection F with F;subst F;exact⟨_,rfl,J u _ (ev lo (by simp))⟩
    ·intro y F;injection F with F;subst F;exact⟨_,rfl,E u _ (ev hi (by simp))⟩
   | none=>obtain⟨ab,h,J⟩:=aK (S:=S) (w:=w) h;obtain⟨z,O,L⟩:=mD hH h;refine⟨z,O,fun u=>gT.of_does (L u _ (some (a.eval lo)) none (M u _ (ev x (by simp))) ?_ (by simp) (by simp) (by simp)) (fun o Z=>by simp[execOp,Z])⟩;intro y F;injection F with F;subst F;exact⟨_,rfl,J u _ (ev lo (by simp))⟩
  | none=>
   cases hi with
   | some hi=>obtain⟨aa,h,E⟩:=aK (S:=S) (w:=w) h;obtain⟨z,O,L⟩:=mD hH h;refine⟨z,O,fun u=>gT.of_does (L u _ none (some (a.eval hi)) (M u _ (ev x (by simp))) (by simp) (by simp) ?_ (by simp)) (fun o Z=>by simp[execOp,Z])⟩;intro y F;injection F with F;subst F;exact⟨_,rfl,E u _ (ev hi (by simp))⟩
   | none=>exact h.elim
end
end Go.Aw
end
section
namespace Go.Aw
def QL:Array Value:=(Go.Lib.pow10Tab.map fun z=>Value.int .u64 z).toArray
def Jt:Array Value:=(Go.Lib.deBruijn64tab.map fun z:Nat=>Value.int .u8 (z:Int)).toArray
def ND:List (Nat×Array Value):=[(5,QL),(1,Jt)]
end Go.Aw
end
section
namespace Go.Aw
open Go.RowKit
def mW(w:World)(g:Nat):Option (Array Value):=match w.heap[g]? with
 | some (.cells cs _ _)=>some cs
 | _=>none
def Fl(S:Sg)(w:World):Prop:=∀t∈ND,S.ro t.1/\mW w t.1=some t.2
def Fl.keep{S S':Sg}{w w':World}(h:Fl S w)(E:S.le S')(F:eG S w w'):Fl S' w':=fun t u=>⟨E.ro _ (h t u).1,by unfold mW;rw[F t.1 (h t u).1];exact(h t u).2⟩
structure St(S:Sg)(w:World)(H:aD):Prop where
 ro_fz:∀k,S.ro k->S.fz k
 fz_lt:∀k,S.fz k->k<w.heap.size
 rows:oU S w H
 free:∀k r,H k=some r->∀g,blk (S.loc k)=some g->¬S.fz g
 disj:∀k k' r r',H k=some r->H k'=some r'->k≠k'->∀g,blk (S.loc k)=some g->blk (S.loc k')≠some g
 tabs:Fl S w
structure Grow(S:Sg)(w:World)(S':Sg)(w':World):Prop where
 le:S.le S'
 fz:∀k,S.fz k->S'.fz k
 os:w'.os=w.os
 tape:w'.tape=w.tape
 output:w'.output=w.output
 size:w.heap.size<=w'.heap.size
 same:∀k,S.fz k->w'.heap[k]?=w.heap[k]?
 newro:∀k,S'.ro k->S.ro k\/¬S.fz k
def Grow.refl(S:Sg)(w:World):Grow S w S w:=⟨S.le_refl,fun _ h=>h,rfl,rfl,rfl,Nat.le_refl _,fun _ _=>rfl,fun _ h=>.inl h⟩
def Grow.trans{S S' J:Sg}{w w' F:World}(h:Grow S w S' w')(u:Grow S' w' J F):Grow S w J F:=
 ⟨Sg.le_trans h.le u.le,fun k E=>u.fz k (h.fz k E),u.os.trans h.os,u.tape.trans h.tape,u.output.trans h.output,Nat.le_trans h.size u.size,
  fun k E=>(u.same k (h.fz k E)).trans (h.same k E),
  fun k E=>by rcases u.newro k E with h1|h1;exact h.newro k h1;exact .inr fun L=>h1 (h.fz k L)⟩
def dK(N:Nat)(H H':aD):Prop:=∀k,k<N->H k=none->H' k=none
def dK.refl(N:Nat)(H:aD):dK N H H:=fun _ _ h=>h
def dK.trans{N E:Nat}{H H' u:aD}(h:dK N H H')(J:dK E H' u)(hN:N<=E):dK N H u:=fun k F h0=>J k (Nat.lt_of_lt_of_le F hN) (h k F h0)
section
variable{S S':Sg}{w w':World}{H H':aD}
def St.kept(F:St S w H)(u:∀k,S.fz k->w'.heap[k]?=w.heap[k]?):eG S w w':=fun k E=>u k (F.ro_fz k E)
def Grow.kept(E:St S w H)(u:Grow S w S' w'):eG S w w':=E.kept u.same
def St.fresh(u:St S w H):H S.N=none:=by
 cases h:H S.N with
 | none=>rfl
 | some r=>exact absurd (u.rows _ r h).lt (Nat.lt_irrefl _)
def RowOK.block_lt{k:Nat}{r:Row}(h:RowOK S w k r){g:Nat}(u:blk (S.loc k)=some g):g<w.heap.size:=by
 rcases h.own with⟨xs,E,_⟩|⟨J,ms,h1,F,_⟩
 ·refine(E.lt g ?_).2;rcases E.2 with⟨hv,_⟩|⟨_,_,_,hv,_⟩ <;> (rw[hv]at u |-;exact u)
 ·rw[h1]at u;injection u with u;subst u;exact(Array.getElem?_eq_some_iff.1 F).1
def yF(u:S.le S')(E:eG S w w'):∀(i:Nat) (es:List (List AV)) (ms:List MapEntry),gO S w i es ms->gO S' w' i es ms
 | _,[],_,h=>h
 | i,cs::r,ms,h=>by simp only[gO]at h |-;obtain⟨m,t,rfl,h1,J,F⟩:=h;exact⟨m,t,rfl,h1,cP u E _ _ J,yF u E (i+1) r t F⟩
def RowOK.keep{k:Nat}{r:Row}(h:RowOK S w k r)(u:S.le S')(J:eG S w w')(M:∀g,blk (S.loc k)=some g->w'.heap[g]?=w.heap[g]?):RowOK S' w' k r:=by
 refine⟨Nat.lt_of_lt_of_le h.lt u.N,by rw[u.sz k h.lt];exact h.sz,h.pos,h.len,?_⟩;rcases h.own with⟨xs,O,hr,h1⟩|⟨g,ms,h1,F,E⟩
 ·refine .inl ?_;unfold Fs;rw[u.loc k h.lt];refine⟨xs,⟨O.1,?_⟩,cP u J _ _ hr,h1⟩;rcases O.2 with F|⟨g,cap,cur,L,E,Z,h5⟩
  ·exact .inl F
  ·exact .inr ⟨g,cap,cur,L,E,by rw[M g (by rw[L];rfl)];exact Z,h5⟩
 ·refine .inr ⟨g,ms,?_,?_,yF u J 0 _ _ E.1,E.2⟩
  ·rw[u.loc k h.lt];exact h1
  ·rw[M g (by rw[h1];rfl)];exact F
def FR.keep{ρ:Env}{a:Act}(h:FR S w ρ a)(u:S.le S')(F:eG S w w'):FR S' w' ρ a:=fun t E=>gY u F _ _ (h t E)
def FR.put{ρ:Env}{a:Act}(h:FR S w ρ a){d:Option Nat}{z:AV}{v:Value}(F:rep S w z v):FR S w (upd ρ d z) (a.put d v):=by
 intro t E;cases d with
 | none=>exact h t E
 | some d=>
  simp only[Act.put,upd]at E |-;have u:t<a.tmps.size:=by simpa using E
  by_cases e:t=d
  ·subst e;simpa[Array.getD,u]using F
  ·have h1:=h t u;have J:d≠t:=fun h=>e h.symm
   simp only[if_neg e];have:(a.tmps.setIfInBounds d v).getD t undef=a.tmps.getD t undef:=by simp[Array.getD_eq_getD_getElem?,Array.getElem?_setIfInBounds,J]
   rw[this];exact h1
def Sg.addRow(S:Sg)(v:Value)(sz:Nat):Sg:={ S with loc:=fun k=>if k=S.N then v else S.loc k,sz:=fun k=>if k=S.N then sz else S.sz k,N:=S.N+1 }
def Sg.le_addRow(S:Sg)(v:Value)(sz:Nat):S.le (S.addRow v sz):=
 ⟨fun _ h=>h,Nat.le_succ _,fun k u=>by simp[Sg.addRow,Nat.ne_of_lt u],fun k u=>by simp[Sg.addRow,Nat.ne_of_lt u]⟩
def cY{k:Nat}{r:Option Row}:aE H k r k=r:=aB H k r
def St.newRow(M:St S w H){e:TypeId}{sz cap:Nat}{es:List (List AV)}{xs:List Value}{cur:Array Value}(an:0<sz)(af:∀cs∈es,cs.length=sz)
  (hr:aR S w es.flatten xs) (h1:∀u∈xs,u.oneCell'=true) (hn:es.length<=cap) (aj:cap<=maxLen) (al:cur.size=cap*sz) (ag:cur.toList.take (es.length*sz)=xs) {w':World}
  (hw:w'.heap=w.heap.push (.cells cur e)) (ap:w'.os=w.os) (ah:w'.tape=w.tape) (ai:w'.output=w.output):
  St (S.addRow (.slice (some ⟨w.heap.size,0,none⟩) es.length cap) sz) w' (aE H S.N (some ⟨e,sz,es⟩))/\Grow S w (S.addRow (.slice (some ⟨w.heap.size,0,none⟩) es.length cap) sz) w':=by
 have aa:∀k,k<w.heap.size->w'.heap[k]?=w.heap[k]?:=fun k F=>by rw[hw,Array.getElem?_push,if_neg (by omega)]
 have ao:w'.heap[w.heap.size]?=some (.cells cur e (0,0)):=by rw[hw];simp
 have aq:w'.heap.size=w.heap.size+1:=by rw[hw];simp
 have ae:=S.le_addRow (.slice (some ⟨w.heap.size,0,none⟩) es.length cap) sz;have Z:eG S w w':=fun k F=>aa k (M.fz_lt k (M.ro_fz k F))
 have E:(S.addRow (.slice (some ⟨w.heap.size,0,none⟩) es.length cap) sz).loc S.N=.slice (some ⟨w.heap.size,0,none⟩) es.length cap:=by simp[Sg.addRow]
 have ab:∀k,k<S.N->(S.addRow (.slice (some ⟨w.heap.size,0,none⟩) es.length cap) sz).loc k=S.loc k:=ae.loc;have L:∀k r,k≠S.N->aE H S.N (some ⟨e,sz,es⟩) k=some r->H k=some r:=fun k r F h=>by rwa [aC _ _ _ _ F]at h
 refine⟨⟨M.ro_fz,fun k F=>by have:=M.fz_lt k F;omega,?_,?_,?_,M.tabs.keep ae Z⟩,⟨ae,fun _ h=>h,ap,ah,ai,by omega,fun k F=>aa k (M.fz_lt k F),fun _ h=>.inl h⟩⟩
 ·intro k r F;by_cases e0:k=S.N
  ·subst e0;rw[cY]at F;injection F with F;subst F;refine⟨Nat.lt_succ_self _,by simp[Sg.addRow],an,af,.inl ⟨xs,⟨?_,.inr ⟨w.heap.size,cap,cur,E,Nat.zero_le _,ao,hn,aj,al,ag⟩⟩,cP ae Z _ _ hr,h1⟩⟩;rw[eF _ _ hr,iT es af]
  ·have J:=L k r e0 F;exact(M.rows k r J).keep ae Z fun g hg=>aa g ((M.rows k r J).block_lt hg)
 ·intro k r F g hg;by_cases e0:k=S.N
  ·subst e0;rw[E]at hg;simp only[blk,Option.some.injEq]at hg;subst hg;exact fun h=>Nat.lt_irrefl _ (M.fz_lt _ h)
  ·have J:=L k r e0 F;rw[ab k (M.rows k r J).lt]at hg;exact M.free k r J g hg
 ·intro k k' r r' F J am g hg O;by_cases e0:k=S.N
  ·subst e0;rw[E]at hg;simp only[blk,Option.some.injEq]at hg;subst hg;have ac:=L k' r' (Ne.symm am) J;rw[ab k' (M.rows k' r' ac).lt]at O;exact Nat.lt_irrefl _ ((M.rows k' r' ac).block_lt O)
  ·have ac:=L k r e0 F;rw[ab k (M.rows k r ac).lt]at hg;by_cases e1:k'=S.N
   ·subst e1;rw[E]at O;simp only[blk,Option.some.injEq]at O;subst O;exact Nat.lt_irrefl _ ((M.rows k r ac).block_lt hg)
   ·have ak:=L k' r' e1 J;rw[ab k' (M.rows k' r' ak).lt]at O;exact M.disj k k' r r' ac ak am g hg O
def St.newMap(J:St S w H){w':World}(hw:w'.heap=w.heap.push (.map #[] 0))(ai:w'.os=w.os)(ac:w'.tape=w.tape)(ae:w'.output=w.output):
  St (S.addRow (.map (some w.heap.size)) 2) w' (aE H S.N (some ⟨0,2,[]⟩))/\Grow S w (S.addRow (.map (some w.heap.size)) 2) w':=by
 have Z:∀k,k<w.heap.size->w'.heap[k]?=w.heap[k]?:=fun k E=>by rw[hw,Array.getElem?_push,if_neg (by omega)]
 have ag:w'.heap[w.heap.size]?=some (.map #[] 0):=by rw[hw];simp
 have aj:w'.heap.size=w.heap.size+1:=by rw[hw];simp
 have O:=S.le_addRow (.map (some w.heap.size)) 2;have ab:eG S w w':=fun k E=>Z k (J.fz_lt k (J.ro_fz k E))
 have u:(S.addRow (.map (some w.heap.size)) 2).loc S.N=.map (some w.heap.size):=by simp[Sg.addRow]
 have F:∀k r,k≠S.N->aE H S.N (some ⟨0,2,[]⟩) k=some r->H k=some r:=fun k r E h=>by rwa [aC _ _ _ _ E]at h
 refine⟨⟨J.ro_fz,fun k E=>by have:=J.fz_lt k E;omega,?_,?_,?_,J.tabs.keep O ab⟩,⟨O,fun _ h=>h,ai,ac,ae,by omega,fun k E=>Z k (J.fz_lt k E),fun _ h=>.inl h⟩⟩
 ·intro k r E;by_cases e0:k=S.N
  ·subst e0;rw[cY]at E;injection E with E;subst E;exact⟨Nat.lt_succ_self _,by simp[Sg.addRow],by simp,by simp,.inr ⟨w.heap.size,[],u,ag,by simp[gO],rfl⟩⟩
  ·have L:=F k r e0 E;exact(J.rows k r L).keep O ab fun g hg=>Z g ((J.rows k r L).block_lt hg)
 ·intro k r E g hg;by_cases e0:k=S.N
  ·subst e0;rw[u]at hg;simp only[blk,Option.some.injEq]at hg;subst hg;exact fun h=>Nat.lt_irrefl _ (J.fz_lt _ h)
  ·have L:=F k r e0 E;rw[O.loc k (J.rows k r L).lt]at hg;exact J.free k r L g hg
 ·intro k k' r r' E L ah g hg M;by_cases e0:k=S.N
  ·subst e0;rw[u]at hg;simp only[blk,Option.some.injEq]at hg;subst hg;have aa:=F k' r' (Ne.symm ah) L;rw[O.loc k' (J.rows k' r' aa).lt]at M;exact Nat.lt_irrefl _ ((J.rows k' r' aa).block_lt M)
  ·have aa:=F k r e0 E;rw[O.loc k (J.rows k r aa).lt]at hg;by_cases e1:k'=S.N
   ·subst e1;rw[u]at M;simp only[blk,Option.some.injEq]at M;subst M;exact Nat.lt_irrefl _ ((J.rows k r aa).block_lt hg)
   ·have af:=F k' r' e1 L;rw[O.loc k' (J.rows k' r' af).lt]at M;exact J.disj k k' r r' aa af ah g hg M
def St.setMap(M:St S w H){k g:Nat}{r:Row}(hk:H k=some r)(hl:S.loc k=.map (some g)){ms:List MapEntry}{es:List (List AV)}(he:gO S w 0 es ms)(h2:r.sz=2)(ah:g<w.heap.size):
  St S { w with heap:=w.heap.setIfInBounds g (.map ms.toArray ms.length) } (aE H k (some { r with es:=es }))/\Grow S w S { w with heap:=w.heap.setIfInBounds g (.map ms.toArray ms.length) }:=by
 have hR:=M.rows k r hk;have ae:¬S.fz g:=M.free k r hk g (by rw[hl];rfl);have F:∀j,j≠g->(w.heap.setIfInBounds g (.map ms.toArray ms.length))[j]?=w.heap[j]?:=fun j u=>by rw[Array.getElem?_setIfInBounds,if_neg (Ne.symm u)]
 have ab:(w.heap.setIfInBounds g (.map ms.toArray ms.length))[g]?=some (.map ms.toArray ms.length):=by rw[Array.getElem?_setIfInBounds];simp[ah]
 have E:eG S w { w with heap:=w.heap.setIfInBounds g (.map ms.toArray ms.length) }:=fun j u=>F j (fun e=>ae (e▸M.ro_fz j u))
 have p:∀j r',aE H k (some { r with es:=es }) j=some r'->∃Z,H j=some Z:=fun j r' u=>by
  by_cases e:j=k
  ·subst e;exact⟨r,hk⟩
  ·rw[aC _ _ _ _ e]at u;exact⟨_,u⟩
 have aa:∀(i:Nat) (es:List (List AV)) (ms:List MapEntry),gO S w i es ms->∀cs∈es,cs.length=2:=by
  intro i es;induction es generalizing i with
  | nil=>simp
  | cons c es ih=>
   intro ms h cs L;simp only[gO]at h;obtain⟨m,t,rfl,_,h4,h5⟩:=h;rcases List.mem_cons.1 L with rfl|L
   ·have:=eF _ _ h4;simpa using this.symm
   ·exact ih (i+1) t h5 cs L
 refine⟨⟨M.ro_fz,fun j u=>by simpa using M.fz_lt j u,?_,?_,?_,M.tabs.keep S.le_refl E⟩,⟨S.le_refl,fun _ h=>h,rfl,rfl,rfl,by simp,fun j u=>F j (fun e=>ae (e▸u)),fun _ h=>.inl h⟩⟩
 ·intro j r' u;by_cases e:j=k
  ·subst e;rw[cY]at u;injection u with u;subst u;exact⟨hR.lt,hR.sz,hR.pos,fun cs L=>(aa 0 es ms he cs L).trans h2.symm,.inr ⟨g,ms,hl,ab,yF S.le_refl E 0 _ _ he,h2⟩⟩
  ·rw[aC _ _ _ _ e]at u;exact(M.rows j r' u).keep S.le_refl E fun g' J=>F g' (fun e'=>M.disj j k r' r u hk e g' J (by rw[hl,e'];rfl))
 ·intro j r' u g' J;obtain⟨Z,O⟩:=p j r' u;exact M.free j Z O g' J
 ·intro j j' r1 r2 u O ac g' J ag;obtain⟨q1,af⟩:=p j r1 u;obtain⟨q2,ai⟩:=p j' r2 O;exact M.disj j j' q1 q2 af ai ac g' J ag
def St.nilRow(O:St S w H)(e:TypeId){sz:Nat}(ab:0<sz):
  St (S.addRow (.slice none 0 0) sz) w (aE H S.N (some ⟨e,sz,[]⟩))/\Grow S w (S.addRow (.slice none 0 0) sz) w:=by
 have F:=S.le_addRow (.slice none 0 0) sz;have u:(S.addRow (.slice none 0 0) sz).loc S.N=.slice none 0 0:=by simp[Sg.addRow]
 have E:∀k r,k≠S.N->aE H S.N (some ⟨e,sz,[]⟩) k=some r->H k=some r:=fun k r L h=>by rwa [aC _ _ _ _ L]at h
 refine⟨⟨O.ro_fz,O.fz_lt,?_,?_,?_,O.tabs.keep F (eG.refl S w)⟩,⟨F,fun _ h=>h,rfl,rfl,rfl,Nat.le_refl _,fun _ _=>rfl,fun _ h=>.inl h⟩⟩
 ·intro k r L;by_cases e0:k=S.N
  ·subst e0;rw[cY]at L;injection L with L;subst L;refine⟨Nat.lt_succ_self _,by simp[Sg.addRow],ab,by simp,.inl ⟨[],⟨by simp,.inl ⟨u,rfl⟩⟩,by simp[aR],by simp⟩⟩
  ·have J:=E k r e0 L;exact(O.rows k r J).keep F (eG.refl S w) fun _ _=>rfl
 ·intro k r L g Z;by_cases e0:k=S.N
  ·subst e0;rw[u]at Z;simp[blk]at Z
  ·have J:=E k r e0 L;rw[F.loc k (O.rows k r J).lt]at Z;exact O.free k r J g Z
 ·intro k k' r r' L J ae g Z M;by_cases e0:k=S.N
  ·subst e0;rw[u]at Z;simp[blk]at Z
  ·have aa:=E k r e0 L;rw[F.loc k (O.rows k r aa).lt]at Z;by_cases e1:k'=S.N
   ·subst e1;rw[u]at M;simp[blk]at M
   ·have ac:=E k' r' e1 J;rw[F.loc k' (O.rows k' r' ac).lt]at M;exact O.disj k k' r r' aa ac ae g Z M
def Sg.addRo(S:Sg)(g:Nat):Sg:={ S with ro:=fun k=>S.ro k\/k=g,fz:=fun k=>S.fz k\/k=g }
def Sg.le_addRo(S:Sg)(g:Nat):S.le (S.addRo g):=⟨fun _ h=>.inl h,Nat.le_refl _,fun _ _=>rfl,fun _ _=>rfl⟩
def St.newRo(F:St S w H){o:Obj}{w':World}(hw:w'.heap=w.heap.push o)(aa:w'.os=w.os)(L:w'.tape=w.tape)(Z:w'.output=w.output):
  St (S.addRo w.heap.size) w' H/\Grow S w (S.addRo w.heap.size) w':=by
 have E:∀k,k<w.heap.size->w'.heap[k]?=w.heap[k]?:=fun k u=>by rw[hw,Array.getElem?_push,if_neg (by omega)]
 have ab:w'.heap.size=w.heap.size+1:=by rw[hw];simp
 have M:=S.le_addRo w.heap.size;have J:eG S w w':=fun k u=>E k (F.fz_lt k (F.ro_fz k u))
 refine⟨⟨fun k u=>u.imp (F.ro_fz k) id,fun k u=>?_,fun k r u=>(F.rows k r u).keep M J fun g hg=>E g ((F.rows k r u).block_lt hg),fun k r u g hg O=>?_,F.disj,F.tabs.keep M J⟩,
  ⟨M,fun _ h=>.inl h,aa,L,Z,by omega,fun k u=>E k (F.fz_lt k u),fun k u=>u.imp id (fun e O=>by have:=F.fz_lt k O;omega)⟩⟩
 ·rcases u with u|u
  ·have:=F.fz_lt k u;omega
  ·omega
 ·rcases O with O|O
  ·exact F.free k r u g hg O
  ·have:=(F.rows k r u).block_lt hg;omega
def RowOK.open{k:Nat}{r:Row}(h:RowOK S w k r){E:Option Addr}{Z c0:Nat}(F:S.loc k=.slice E Z c0)(J:r.es≠[]):∃g cap cur,S.loc k=.slice (some ⟨g,0,none⟩) r.es.length cap/\w.heap[g]?=some (.cells cur r.e (0,0))/\r.es.length<=cap/\cap<=maxLen/\cur.size=cap*r.sz /\
  aR S w r.es.flatten (cur.toList.take (r.es.length*r.sz))/\∀u∈cur.toList.take (r.es.length*r.sz),u.oneCell'=true:=by
 obtain⟨xs,ho,hr,h1⟩:=h.sl F;rcases ho.2 with⟨_,L⟩|⟨g,cap,cur,O,_,h2,h3,h4,h5,M⟩
 ·exact absurd (List.eq_nil_of_length_eq_zero L) J
 ·subst M;exact⟨g,cap,cur,O,h2,h3,h4,h5,hr,h1⟩
def sO:∀(es:List (List AV)) (i:Nat) (cs:List AV) {sz:Nat},(∀c∈es,c.length=sz)->i<es.length->cs.length=sz ->
  (es.set i cs).flatten=es.flatten.take (i*sz)++cs++es.flatten.drop (i*sz+sz)
 | [],_,_,_,_,h,_=>by simp at h
 | x::r,0,cs,sz,hl,_,u=>by have E:=hl x (by simp);simp[<-E]
 | x::r,i+1,cs,sz,hl,hi,u=>by
  have E:=hl x (by simp);have ih:=sO r i cs (fun c u=>hl c (by simp[u])) (by simpa using hi) u;simp only[List.set_cons_succ,List.flatten_cons,ih];have F:(i+1)*sz=x.length+i*sz:=by rw[E,Nat.add_mul];omega
  rw[F,Nat.add_assoc,List.take_append,List.drop_append];simp[List.take_of_length_le,List.drop_eq_nil_of_le,Nat.add_assoc]
def St.store(M:St S w H){k:Nat}{r:Row}(hk:H k=some r){i f:Nat}{cs:List AV}{l:List Value}(hi:i<r.es.length)(hf:f+cs.length<=r.sz){aq:Option Addr}{n0 c0:Nat}(am:S.loc k=.slice aq n0 c0)
   (hr:aR S w cs l) (h1:∀u∈l,u.oneCell'=true):
   ∃g n c w',S.loc k=.slice (some ⟨g,0,none⟩) n c/\(∀P:Program,(storeCells ⟨g,i*r.sz+f,none⟩ l).run P w=.ok () w') /\
     St S w' (aE H k (some { r with es:=r.es.set i (kI (r.es.getD i []) f cs) }))/\Grow S w S w':=by
 have hR:=M.rows k r hk;have an:r.es≠[]:=fun e=>by rw[e]at hi;simp at hi
 obtain⟨g,cap,cur,J,hg,ah,az,ao,ae,aa⟩:=hR.open am an;have af:=eF _ _ hr;have ak:(i+1)*r.sz<=r.es.length*r.sz:=Nat.mul_le_mul_right _ hi;have ar:r.es.length*r.sz<=cap*r.sz:=Nat.mul_le_mul_right _ ah;rw[Nat.add_mul,Nat.one_mul]at ak;have ag:∀P:Program,_:=fun P=>run_storeCells_at (P:=P) g (i*r.sz+f) r.e l 0 cur w hg (by rw[af,ao];omega) h1
 simp only[Nat.add_zero]at ag;refine⟨g,_,cap,_,J,ag,?_,?_⟩
 . have O:∀j,j≠g->(w.setRow g (List.take (i*r.sz+f) cur.toList++l++List.drop (i*r.sz+f+l.length) cur.toList).toArray).heap[j]?=w.heap[j]?:=fun j E=>setRow_other w g j _ E
   have ay:¬S.fz g:=M.free k r hk g (by rw[J];rfl);have F:eG S w (w.setRow g (List.take (i*r.sz+f) cur.toList++l++List.drop (i*r.sz+f+l.length) cur.toList).toArray):=fun j E=>O j (fun e=>ay (e▸M.ro_fz j E))
   have ac:(r.es.getD i []).length=r.sz:=by simp only[List.getD,List.getElem?_eq_getElem hi,Option.getD_some];exact hR.len _ (List.getElem_mem hi)
   have ab:(kI (r.es.getD i []) f cs).length=r.sz:=by simp only[kI,List.length_append,List.length_take,List.length_drop,ac];omega
   have e2 : List.take (r.es.length * r.sz) (List.take (i * r.sz + f) cur.toList ++ l ++ List.drop (i * r.sz + f + l.length) cur.toList) =
       (cur.toList.take (r.es.length*r.sz)).take (i*r.sz+f)++l++(cur.toList.take (r.es.length*r.sz)).drop (i*r.sz+f+l.length):=by
     rw[List.take_take,Nat.min_eq_left (by omega),List.drop_take];rw[List.take_append,List.take_append];simp only[List.length_append,List.length_take,Array.length_toList];rw[Nat.min_eq_left (by omega:i*r.sz+f<=cur.size)];rw[List.take_of_length_le (l:=List.take (i*r.sz+f) cur.toList) (by simp;omega),List.take_of_length_le (l:=l) (by omega)]
   refine⟨M.ro_fz,fun j E=>by simpa using M.fz_lt j E,?_,?_,?_,M.tabs.keep S.le_refl F⟩
   . intro j r' E;by_cases e:j=k
     . subst e;rw[cY]at E;injection E with E;subst E;refine⟨hR.lt,hR.sz,hR.pos,?_,.inl ?_⟩
       . intro c hc;rcases List.mem_or_eq_of_mem_set hc with hc|rfl
         . exact hR.len c hc
         . exact ab
       . refine⟨(List.take (i*r.sz+f) cur.toList++l++List.drop (i*r.sz+f+l.length) cur.toList).take (r.es.length*r.sz),⟨?_,.inr ⟨g,cap,_,by simpa using J,Nat.zero_le _,setRow_heap w g cur _ _ _ hg,by simpa using ah,az,?_,by simp⟩⟩,?_,?_⟩
         . simp only[List.length_set,List.length_take,List.length_append,List.length_drop,Array.length_toList];omega
         . simp only[List.size_toArray,List.length_append,List.length_take,List.length_drop,Array.length_toList];omega
         . have hx:=(cP (S.le_refl) F _ _ ae);have hy:=(cP (S.le_refl) F _ _ hr);have e1:(r.es.set i (kI (r.es.getD i []) f cs)).flatten=r.es.flatten.take (i*r.sz+f)++cs++r.es.flatten.drop (i*r.sz+f+l.length):=by
             rw[sO r.es i _ hR.len hi ab];have ax:r.es.flatten.length=r.es.length*r.sz:=iT _ hR.len;have ai:r.es.getD i []=(r.es.flatten.drop (i*r.sz)).take r.sz:=by
               have h0:=sO r.es i (r.es.getD i []) hR.len hi ac;have hs:r.es.set i (r.es.getD i [])=r.es:=by simp only[List.getD,List.getElem?_eq_getElem hi,Option.getD_some];exact List.set_getElem_self hi
               rw[hs]at h0;have h3:(r.es.flatten.drop (i*r.sz)).take r.sz=((r.es.flatten.take (i*r.sz)++r.es.getD i []++r.es.flatten.drop (i*r.sz+r.sz)).drop (i*r.sz)).take r.sz:=by rw[<-h0]
               rw[h3,List.append_assoc,List.drop_append_of_le_length (by rw[List.length_take];omega)];rw[List.drop_eq_nil_of_le (by rw[List.length_take];omega),List.nil_append,List.take_append_of_le_length (by omega),List.take_of_length_le (by omega)]
             rw[ai,kI];have a1:List.take (i*r.sz+f) r.es.flatten=r.es.flatten.take (i*r.sz)++((r.es.flatten.drop (i*r.sz)).take r.sz).take f:=by rw[List.take_take,Nat.min_eq_left (by omega),List.take_add]
             have a2:r.es.flatten.drop (i*r.sz+f+l.length)=((r.es.flatten.drop (i*r.sz)).take r.sz).drop (f+cs.length)++r.es.flatten.drop (i*r.sz+r.sz):=by
               rw[List.drop_take,List.drop_drop,<-af,<-Nat.add_assoc];have:List.drop (i*r.sz+r.sz) r.es.flatten=(List.drop (i*r.sz+f+l.length) r.es.flatten).drop (r.sz-(f+l.length)):=by rw[List.drop_drop];congr 1;omega
               rw[this,List.take_append_drop]
             rw[a1,a2];simp only[List.append_assoc]
           rw[e1];rw[e2];exact cA _ _ _ _ (cA _ _ _ _ (mF _ _ _ hx) hy) (lZ _ _ _ hx)
         . intro u Z;rw[e2]at Z;simp only[List.mem_append]at Z;rcases Z with(Z|Z)|Z
           . exact aa u (List.mem_of_mem_take Z)
           . exact h1 u Z
           . exact aa u (List.mem_of_mem_drop Z)
     . rw[aC _ _ _ _ e]at E;exact(M.rows j r' E).keep S.le_refl F fun g' L=>O g' (fun e'=>M.disj j k r' r E hk e g' L (by rw[J,e'];rfl))
   . intro j r' E g' L;by_cases e:j=k
     . subst e;exact M.free j r hk g' L
     . rw[aC _ _ _ _ e]at E;exact M.free j r' E g' L
   . intro j j' r1 r2 E av aj g' L al;have p:∀j r',aE H k (some { r with es:=r.es.set i (kI (r.es.getD i []) f cs) }) j=some r'->∃ap,H j=some ap:=fun j r' E=>by
       by_cases e:j=k
       . subst e;exact⟨r,hk⟩
       . rw[aC _ _ _ _ e]at E;exact⟨_,E⟩
     obtain⟨q1,au⟩:=p j r1 E;obtain⟨q2,aw⟩:=p j' r2 av;exact M.disj j j' q1 q2 au aw aj g' L al
 . refine⟨S.le_refl,fun _ h=>h,rfl,rfl,rfl,by simp,fun j E=>setRow_other w g j _ (fun e=>M.free k r hk g (by rw[J];rfl) (e▸E)),fun _ h=>.inl h⟩
end
end Go.Aw
end
section
namespace Go.Aw
open Go.RowKit
section
variable{P:Program}{S S':Sg}{w w':World}{H H':aD}
def nS(S:Sg)(w:World)(u:Value)(news:List (List AV)):Prop:=
 ∃ad c l,u=.slice ad news.length c/\aR S w news.flatten l/\(∀x∈l,x.oneCell'=true) /\
   (news=[]\/∃b o,ad=some ⟨b,o,none⟩/\∀j x,l[j]?=some x->w.cell? ⟨b,o+j,none⟩=some x)
def yA{es:List (List AV)}{u:Value}(h:rep S w (.sl es) u):nS S w u es:=by
 simp only[rep]at h;obtain⟨ad,n,c,rfl,rfl,_,_,L⟩:=h;rcases L with rfl|⟨b,o,sz,rfl,Z,O,E⟩
 ·exact⟨ad,c,[],rfl,by simp[aR],by simp,.inl rfl⟩
 ·obtain⟨l,M,e2,J,F⟩:=iF _ _ (pS es o E);exact⟨_,c,l,rfl,e2,J,.inr ⟨b,o,rfl,F⟩⟩
def xJ{k:Nat}{r:Row}(h:RowOK S w k r){a0:Option Addr}{Z c0:Nat}(M:S.loc k=.slice a0 Z c0):nS S w (S.loc k) r.es:=by
 obtain⟨xs,F,J,h1⟩:=h.sl M;rcases F.2 with⟨u,E⟩|⟨g,cap,cur,u,_⟩
 ·have L:=List.eq_nil_of_length_eq_zero E;have hx:xs=[]:=List.eq_nil_of_length_eq_zero (by rw[F.1,E];simp);exact⟨none,0,xs,by rw[u,E],J,h1,.inl L⟩
 ·refine⟨some ⟨g,0,none⟩,cap,xs,u,J,h1,.inr ⟨g,0,rfl,fun j x O=>?_⟩⟩;have:=F.cells (g:=g) (by rw[u];rfl) j x O
  rwa [Addr.add_lit]at this
def sF{k a b:Nat}{r:Row}{u:Value}(hk:RowOK S w k r)(hu:rep S w (.oz k a b) u):nS S w u ((r.es.take b).drop a)/\b<=r.es.length/\a<=b:=by
 simp only[rep]at hu;obtain⟨_,ad,n,c,ab,cc,E,rfl,ae,J,aa,_,af,_,_⟩:=hu;obtain⟨xs,ho,hr,h1⟩:=hk.sl E;have hn:n=r.es.length:=by
  rcases ho.2 with⟨M,hn⟩|⟨g,cap,cur,M,_⟩
  ·rw[E]at M;injection M with _ h2 _;omega
  ·rw[E]at M;injection M
 subst hn;refine⟨?_,J,ae⟩;have F:((r.es.take b).drop a).length=b-a:=by simp;omega
 rcases Nat.lt_or_ge a b with ag|ah
 ·obtain⟨g,rfl,rfl⟩:=aa (by omega);have ac:r.es≠[]:=fun e=>by rw[e]at J;simp at J;omega
  obtain⟨g',n',c',O,L,_⟩:=hk.els E ac;rw[E]at O;injection O with Z _ _;injection Z with Z;injection Z with Z;subst Z;have h2:=vF _ 0 a (qL r.es 0 b L);rw[Nat.zero_add,hk.sz]at h2;obtain⟨l,q1,q2,q3,q4⟩:=iF _ _ (pS _ _ h2);exact⟨_,cc,l,by rw[F],q2,q3,.inr ⟨g,a*S.sz k,rfl,q4⟩⟩
 ·have he:(r.es.take b).drop a=[]:=List.eq_nil_of_length_eq_zero (by omega);exact⟨ab,cc,[],by rw[F],by rw[he];simp[aR],by simp,.inl he⟩
def rI:∀(es:List (List AV)) (a:Nat) {sz:Nat},(∀c∈es,c.length=sz)->(es.take a).flatten=es.flatten.take (a*sz)
 | [],_,_,_=>by simp
 | x::r,0,_,_=>by simp
 | x::r,a+1,sz,hl=>by
  have E:=hl x (by simp);rw[List.take_succ_cons,List.flatten_cons,List.flatten_cons,rI r a (fun c u=>hl c (by simp[u])),Nat.add_mul,Nat.one_mul,List.take_append,E];rw[List.take_of_length_le (l:=x) (by omega)]
  congr 2
  omega
def rC:∀(es:List (List AV)) (a:Nat) {sz:Nat},(∀c∈es,c.length=sz)->(es.drop a).flatten=es.flatten.drop (a*sz)
 | [],_,_,_=>by simp
 | x::r,0,_,_=>by simp
 | x::r,a+1,sz,hl=>by
  have E:=hl x (by simp);rw[List.drop_succ_cons,List.flatten_cons,rC r a (fun c u=>hl c (by simp[u])),Nat.add_mul,Nat.one_mul,List.drop_append,E];rw[List.drop_eq_nil_of_le (as:=x) (by omega),List.nil_append]
  congr 1
  omega
def St.storeE(M:St S w H){k:Nat}{r:Row}(hk:H k=some r){a:Nat}{news:List (List AV)}{l:List Value}(ab:∀c∈news,c.length=r.sz)(ha:a+news.length<=r.es.length)(ag:r.es≠[]){au:Option Addr}{n0 c0:Nat}(ao:S.loc k=.slice au n0 c0)
   (hr:aR S w news.flatten l) (h1:∀u∈l,u.oneCell'=true):
   ∃g n c w',S.loc k=.slice (some ⟨g,0,none⟩) n c/\(∀P:Program,(storeCells ⟨g,a*r.sz,none⟩ l).run P w=.ok () w') /\
     St S w' (aE H k (some { r with es:=r.es.take a++news++r.es.drop (a+news.length) }))/\Grow S w S w':=by
 have hR:=M.rows k r hk;obtain⟨g,cap,cur,J,hg,af,aw,aq,ae,ac⟩:=hR.open ao ag;have ai:l.length=news.length*r.sz:=by rw[eF _ _ hr,iT news ab]
 have ak:(a+news.length)*r.sz<=r.es.length*r.sz:=Nat.mul_le_mul_right _ ha;have ax:r.es.length*r.sz<=cap*r.sz:=Nat.mul_le_mul_right _ af;rw[Nat.add_mul]at ak;have aj:∀P:Program,_:=fun P=>run_storeCells_at (P:=P) g (a*r.sz) r.e l 0 cur w hg (by rw[ai,aq];omega) h1
 simp only[Nat.add_zero]at aj;refine⟨g,_,cap,_,J,aj,?_,?_⟩
 . have O:∀j,j≠g->(w.setRow g (List.take (a*r.sz) cur.toList++l++List.drop (a*r.sz+l.length) cur.toList).toArray).heap[j]?=w.heap[j]?:=fun j E=>setRow_other w g j _ E
   have av:¬S.fz g:=M.free k r hk g (by rw[J];rfl);have F:eG S w (w.setRow g (List.take (a*r.sz) cur.toList++l++List.drop (a*r.sz+l.length) cur.toList).toArray):=fun j E=>O j (fun e=>av (e▸M.ro_fz j E))
   have aa:(r.es.take a++news++r.es.drop (a+news.length)).length=r.es.length:=by simp;omega
   have e2 : List.take (r.es.length * r.sz) (List.take (a * r.sz) cur.toList ++ l ++ List.drop (a * r.sz + l.length) cur.toList) =
       (cur.toList.take (r.es.length*r.sz)).take (a*r.sz)++l++(cur.toList.take (r.es.length*r.sz)).drop (a*r.sz+l.length):=by
     rw[List.take_take,Nat.min_eq_left (by omega),List.drop_take];rw[List.take_append,List.take_append];simp only[List.length_append,List.length_take,Array.length_toList];rw[Nat.min_eq_left (by omega:a*r.sz<=cur.size)];rw[List.take_of_length_le (l:=List.take (a*r.sz) cur.toList) (by simp;omega),List.take_of_length_le (l:=l) (by omega)]
   refine⟨M.ro_fz,fun j E=>by simpa using M.fz_lt j E,?_,?_,?_,M.tabs.keep S.le_refl F⟩
   . intro j r' E;by_cases e:j=k
     . subst e;rw[cY]at E;injection E with E;subst E;refine⟨hR.lt,hR.sz,hR.pos,?_,.inl ?_⟩
       . intro c Z;rcases List.mem_append.1 Z with Z|Z
         . rcases List.mem_append.1 Z with Z|Z
           . exact hR.len c (List.mem_of_mem_take Z)
           . exact ab c Z
         . exact hR.len c (List.mem_of_mem_drop Z)
       . refine⟨(List.take (a*r.sz) cur.toList++l++List.drop (a*r.sz+l.length) cur.toList).take (r.es.length*r.sz),⟨?_,.inr ⟨g,cap,_,by rw[aa];exact J,Nat.zero_le _,setRow_heap w g cur _ _ _ hg,by rw[aa];exact af,aw,?_,by rw[aa]⟩⟩,?_,?_⟩
         . rw[aa];simp only[List.length_take,List.length_append,List.length_drop,Array.length_toList];omega
         . simp only[List.size_toArray,List.length_append,List.length_take,List.length_drop,Array.length_toList];omega
         . have hx:=(cP (S.le_refl) F _ _ ae);have hy:=(cP (S.le_refl) F _ _ hr);have e1:(r.es.take a++news++r.es.drop (a+news.length)).flatten=r.es.flatten.take (a*r.sz)++news.flatten++r.es.flatten.drop (a*r.sz+l.length):=by rw[List.flatten_append,List.flatten_append,rI _ _ hR.len,rC _ _ hR.len,Nat.add_mul,ai]
           rw[e1,e2];exact cA _ _ _ _ (cA _ _ _ _ (mF _ _ _ hx) hy) (lZ _ _ _ hx)
         . intro u hu;rw[e2]at hu;simp only[List.mem_append]at hu;rcases hu with(hu|hu)|hu
           . exact ac u (List.mem_of_mem_take hu)
           . exact h1 u hu
           . exact ac u (List.mem_of_mem_drop hu)
     . rw[aC _ _ _ _ e]at E;exact(M.rows j r' E).keep S.le_refl F fun g' L=>O g' (fun e'=>M.disj j k r' r E hk e g' L (by rw[J,e'];rfl))
   . intro j r' E g' L;by_cases e:j=k
     . subst e;exact M.free j r hk g' L
     . rw[aC _ _ _ _ e]at E;exact M.free j r' E g' L
   . intro j j' r1 r2 E am ah g' L an;have p:∀j r',aE H k (some { r with es:=r.es.take a++news++r.es.drop (a+news.length) }) j=some r'->∃ar,H j=some ar:=fun j r' E=>by
       by_cases e:j=k
       . subst e;exact⟨r,hk⟩
       . rw[aC _ _ _ _ e]at E;exact⟨_,E⟩
     obtain⟨q1,al⟩:=p j r1 E;obtain⟨q2,ap⟩:=p j' r2 am;exact M.disj j j' q1 q2 al ap ah g' L an
 . refine⟨S.le_refl,fun _ h=>h,rfl,rfl,rfl,by simp,fun j E=>setRow_other w g j _ (fun e=>M.free k r hk g (by rw[J];rfl) (e▸E)),fun _ h=>.inl h⟩
def L5{k:Nat}{r:Row}(u:H k=some r):aE H k (some r)=H:=by
 funext j;by_cases e:j=k
 ·subst e;rw[aB,u]
 ·rw[aC _ _ _ _ e]
def St.copy(hS:St S w H){k:Nat}{r:Row}(hk:H k=some r){t e sz O:Nat}{t' ty:TypeId}(he:bM P t=some (e,sz,O))(ak:r.sz=sz){a n:Nat}(ag:a+n<=r.es.length){x u:Value}{news:List (List AV)}(hu:nS S w u news)(Z:cT sz news)
  (hx:∃ad cc,x=.slice ad n cc/\(0<n->∃g n' c',S.loc k=.slice (some ⟨g,0,none⟩) n' c'/\ad=some ⟨g,a*r.sz,none⟩)):
  ∃w',(Builtin.copy_ #[t,t'] ty #[x,u]).run P w=.ok (goInt (min news.length n:Nat)) w'/\St S w' (aE H k (some { r with es:=r.es.take a++news.take (min news.length n)++r.es.drop (a+min news.length n) }))/\Grow S w S w':=by
 obtain⟨aw,z,ab,hi,af,ay,av,al,hz,ax⟩:=dU he;obtain⟨ad,cc,rfl,ar⟩:=hx;obtain⟨sa,sc,l,rfl,hl,ap,F⟩:=hu;have E:=eH.1 Z;rcases Nat.eq_zero_or_pos (min news.length n)with h0|h0
 ·refine⟨w,?_,?_,Grow.refl S w⟩
  ·have au:Nat.min news.length n=0:=h0;have aq:∀a:Addr,(loadCells a 0).run P w=.ok #[] w:=fun a=>by simpa using run_loadCells_list (P:=P) w a [] (by simp)
   rw[h0];cases ad <;> cases sa <;> simp[Builtin.copy_,run_underlying ab,Builtin.lenOf,Builtin.firstCells,sizeOf,typeInfo,hi,au,aq,storeCells]
  ·rw[h0];have:({ r with es:=r.es.take a++news.take 0++r.es.drop (a+0) }:Row)=r:=by simp
   rw[this,L5 hk];exact hS
 ·have ao:0<n:=by omega
  obtain⟨g,n',c',M,rfl⟩:=ar ao;have ae:r.es≠[]:=fun e=>by rw[e]at ag;simp at ag;omega
  have hm:(news.take (min news.length n)).length=min news.length n:=by simp
  have ah:(news.take (min news.length n)).flatten=news.flatten.take (min news.length n*sz):=rI _ _ E;have aj:aR S w (news.take (min news.length n)).flatten (l.take (min news.length n*sz)):=by rw[ah];exact mF _ _ _ hl
  obtain⟨g',n2,c2,w',J,an,q1,q2⟩:=hS.storeE hk (a:=a) (news:=news.take (min news.length n)) (l:=l.take (min news.length n*sz)) (fun c hc=>by rw[ak];exact E c (List.mem_of_mem_take hc)) (by rw[hm];omega) ae M aj (fun u hu=>ap u (List.mem_of_mem_take hu));rw[M]at J;injection J with i1 _ _;injection i1 with i1;injection i1 with i1;subst i1;rw[hm]at q1;refine⟨w',?_,q1,q2⟩;rcases F with F|⟨b,o,rfl,L⟩
  ·rw[F]at h0;simp at h0
  ·have am:l.length=news.length*sz:=by rw[eF _ _ hl,iT news E]
   have ai:(l.take (min news.length n*sz)).length=min news.length n*sz:=by rw[List.length_take,am];exact Nat.min_eq_left (Nat.mul_le_mul_right _ (Nat.min_le_left _ _))
   have ac:=run_loadCells_list (P:=P) w ⟨b,o,none⟩ (l.take (min news.length n*sz)) (fun j v hj=>by
    rw[Addr.add_lit];refine L j v ?_;rw[List.getElem?_take]at hj;split at hj
    ·exact hj
    ·simp at hj)
   rw[ai]at ac;have aa:Nat.min news.length n=min news.length n:=rfl;simp[Builtin.copy_,run_underlying ab,Builtin.lenOf,Builtin.firstCells,sizeOf,typeInfo,hi,af,aa,ac,an P]
def sX(z:Array Value)(u:0<z.size):∀m,(Builtin.zeroCells z m).toList=(List.replicate m z.toList).flatten
 | 0=>by simp[Builtin.zeroCells]
 | m+1=>by
  have ih:=sX z u m;rw[show List.replicate (m+1) z.toList=List.replicate m z.toList++[z.toList]from List.replicate_succ',List.flatten_append,<-ih];simp only[Builtin.zeroCells,Array.toList_map,Array.toList_range,Nat.add_mul,Nat.one_mul,List.flatten_cons,List.flatten_nil,List.append_nil];rw[List.range_add,List.map_append]
  congr 1
  apply List.ext_getElem
  ·simp
  ·intro i h1 E;simp only[List.length_map,List.length_range]at h1;simp[Nat.add_comm (m*z.size),Nat.add_mul_mod_self_right,Nat.mod_eq_of_lt h1,h1]
def St.clear(hS:St S w H){k:Nat}{r:Row}(hk:H k=some r){t e sz M:Nat}{ty:TypeId}{zs:List AV}(he:bM P t=some (e,sz,M))(ac:cN P e=some zs)(ao:r.sz=sz){a n:Nat}(aa:a+n<=r.es.length){x:Value}
  (hx:∃ad cc,x=.slice ad n cc/\(0<n->∃g n' c',S.loc k=.slice (some ⟨g,0,none⟩) n' c'/\ad=some ⟨g,a*r.sz,none⟩)):
  ∃w',(Builtin.clear_ #[t] ty #[x]).run P w=.ok (.tuple #[]) w'/\St S w' (aE H k (some { r with es:=r.es.take a++List.replicate n zs++r.es.drop (a+n) }))/\Grow S w S w':=by
 obtain⟨an,z,O,hi,aj,ak,ah,af,hz,ai⟩:=dU he;obtain⟨i',v,F,J,rfl,al,am,h1⟩:=iW ac;rw[hi]at F;injection F with F;subst F;rw[hz]at J;injection J with J;subst J;obtain⟨ad,cc,rfl,ae⟩:=hx;rcases Nat.eq_zero_or_pos n with h0|h0
 ·subst h0;refine⟨w,?_,?_,Grow.refl S w⟩
  ·cases ad <;> simp[Builtin.clear_,run_underlying O]
  ·have:({ r with es:=r.es.take a++List.replicate 0 (z.cells.toList.map lA)++r.es.drop (a+0) }:Row)=r:=by simp
   rw[this,L5 hk];exact hS
 ·obtain⟨g,n',c',L,rfl⟩:=ae h0;have ab:r.es≠[]:=fun e=>by rw[e]at aa;simp at aa;omega
  have Z:∀m,aR S w (List.replicate m (z.cells.toList.map lA)).flatten (List.replicate m z.cells.toList).flatten:=by
   intro m;induction m with
   | zero=>simp[aR]
   | succ m ih=>simp only[List.replicate_succ,List.flatten_cons];exact cA _ _ _ _ (iD _) ih
  obtain⟨g',n2,c2,w',E,ag,q1,q2⟩:=hS.storeE hk (a:=a) (news:=List.replicate n (z.cells.toList.map lA)) (l:=(List.replicate n z.cells.toList).flatten) (fun c hc=>by rw[List.eq_of_mem_replicate hc];simp;omega) (by rw[List.length_replicate];omega) ab L (Z n) (fun u hu=>by obtain⟨l,hl,hu⟩:=List.mem_flatten.1 hu;rw[List.eq_of_mem_replicate hl]at hu;exact h1 u hu);rw[L]at E;injection E with i1 _ _;injection i1 with i1;injection i1 with i1;subst i1;rw[List.length_replicate]at q1;refine⟨w',?_,q1,q2⟩;obtain⟨m,rfl⟩:∃m,n=m+1:=⟨n-1,by omega⟩;simp[Builtin.clear_,run_underlying O,zeroValue,typeInfo,hi,hz,sX z.cells (by omega) (m+1),ag P]
def xE{t ty e:TypeId}{i:TypeInfo}{size n c:Nat}{v:Value}{xs:List Value}(F:P.underlying t=some (.slice e))(hi:P.info? e=some i)(u:w.ownsRow 0 e size v n xs):
  (Builtin.append_ #[t,t] ty #[v,.slice none 0 c]).run P w=.ok v w:=by
 rcases u.2 with⟨rfl,rfl⟩|⟨g,cap,cur,rfl,_,_,E,_⟩
 ·simp[Builtin.append_,run_underlying F,sizeOf,typeInfo,hi,Builtin.lenOf,Builtin.firstCells]
 ·simp[Builtin.append_,run_underlying F,sizeOf,typeInfo,hi,Builtin.lenOf,Builtin.firstCells,E,storeCells]
def nD{t ty e:TypeId}{i:TypeInfo}{n c c2:Nat}{b ad:Option Addr}(F:P.underlying t=some (.slice e))(hi:P.info? e=some i)(E:n<=c):
  (Builtin.append_ #[t,t] ty #[.slice b n c,.slice ad 0 c2]).run P w=.ok (.slice b n c) w:=by
 have u:(Builtin.firstCells i.size 0 (.slice ad 0 c2)).run P w=.ok #[] w:=by
  cases ad with
  | none=>rfl
  | some a=>exact run_firstCells_some (P:=P) w i.size 0 a 0 c2 [] (by simp) (by simp)
 cases b <;> simp[Builtin.append_,run_underlying F,sizeOf,typeInfo,hi,Builtin.lenOf,u,E,storeCells]
def St.append(hS:St S w H){k:Nat}{r:Row}(hk:H k=some r){a5:Option Addr}{n0 c0:Nat}(ar:S.loc k=.slice a5 n0 c0){t ty:TypeId}{aa:Nat}(he:bM P t=some (r.e,r.sz,aa)){news:List (List AV)}{u:Value}(hu:nS S w u news)
   (ap:cT r.sz news) (hb:(r.es.length+news.length)*aa<=140737488355328):
   ∃J w',(Builtin.append_ #[t,t] ty #[S.loc k,u]).run P w=.ok J w'/\(∃a n c,J=.slice a n c) /\
     St (S.addRow J r.sz) w' (aE (aE H k none) S.N (some ⟨r.e,r.sz,r.es++news⟩))/\Grow S w (S.addRow J r.sz) w':=by
 have hR:=hS.rows k r hk;obtain⟨ay,z,aq,hi,a4,a7,al,am,hz,az⟩:=dU he;obtain⟨xs,ho,hr,h1⟩:=hR.sl ar;obtain⟨ad,c,l,rfl,hl,ax,ak⟩:=hu;have ah:=eH.1 ap;have an:l.length=news.length*r.sz:=by rw[eF _ _ hl,iT news ah]
 have a9:r.es.length+news.length<=140737488355328:=Nat.le_trans (Nat.le_mul_of_pos_right _ am) hb;have a6 : ∃ J w', (Builtin.append_ #[t, t] ty #[S.loc k, .slice ad news.length c]).run P w = .ok J w' /\ w'.ownsRow 0 r.e r.sz J (r.es.length + news.length) (xs ++ l) /\ w.grownBy w' (blk (S.loc k)) /\
     (blk J=blk (S.loc k)\/blk J=some w.heap.size):=by
   cases ad with
   | none=>
     have hn:news=[]:=by
       rcases ak with h|⟨b,o,h,_⟩
       . exact h
       . simp at h
     subst hn;have ao:l=[]:=List.eq_nil_of_length_eq_zero (by rw[an];simp);subst ao;exact⟨S.loc k,w,xE aq hi ho,by simpa using ho,World.grownBy.refl w _,.inl rfl⟩
   | some a=>
     have aj:∀j x,l[j]?=some x->w.cell? (a.add j)=some x:=by
       rcases ak with h|⟨b,o,h,hc⟩
       . subst h;have ao:l=[]:=List.eq_nil_of_length_eq_zero (by rw[an];simp);subst ao;simp
       . injection h with h;subst h;intro j x F;rw[Addr.add_lit];exact hc j x F
     obtain⟨J,w',q1,q2,q3,_,q5⟩:=run_append_own_at (P:=P) w 0 t ty r.e ay z r.sz aa aq hi hz a4 a7 az al (S.loc k) r.es.length xs ho a news.length c l an aj ax
       (by simp only[maxLen];omega) hb (Nat.zero_le _)
     have av:blk (S.loc k)=(S.loc k).ownBlock:=by rw[ar];exact UG _ _ _
     have a0:blk J=J.ownBlock:=by rcases q2.2 with⟨h,_⟩|⟨_,_,_,h,_⟩ <;> (rw[h];rfl)
     exact⟨J,w',q1,q2,by rw[av];exact q3,by rw[av,a0];exact q5⟩
 obtain⟨J,w',q1,q2,q3,q4⟩:=a6;have ae:=hS.free k r hk;have ag:∀j,S.fz j->w'.heap[j]?=w.heap[j]?:=fun j F=>q3.block j (hS.fz_lt j F) (fun e=>ae j e.symm F)
 have M:eG S w w':=hS.kept ag;have O:=S.le_addRow J r.sz;have L:(S.addRow J r.sz).loc S.N=J:=by simp[Sg.addRow]
 have a8:∀g,blk J=some g->¬S.fz g:=fun g E hf=>by
   rcases q4 with e|e
   . exact ae g (e▸E) hf
   . rw[e]at E;injection E with E;subst E;exact Nat.lt_irrefl _ (hS.fz_lt _ hf)
 have Z:∀j r',j≠S.N->aE (aE H k none) S.N (some ⟨r.e,r.sz,r.es++news⟩) j=some r'->j≠k/\H j=some r':=fun j r' F h=>by
   rw[aC _ _ _ _ F]at h;by_cases e:j=k
   . subst e;rw[aB]at h;simp at h
   . rw[aC _ _ _ _ e]at h;exact⟨e,h⟩
 have ai:∀j r',j≠k->H j=some r'->∀g,blk (S.loc j)=some g->some g≠blk (S.loc k)/\g<w.heap.size:=fun j r' F ab g E=>⟨fun e=>hS.disj j k r' r ab hk F g E e.symm,(hS.rows j r' ab).block_lt E⟩
 have aw:∀j r',j≠k->H j=some r'->∀g,blk (S.loc j)=some g->blk J≠some g:=fun j r' F ab g E e=>by
   obtain⟨e1,e2⟩:=ai j r' F ab g E;rcases q4 with e'|e'
   . exact e1 (by rw[<-e',e])
   . rw[e']at e;injection e with e;omega
 refine⟨J,w',q1,?_,⟨hS.ro_fz,fun j F=>Nat.lt_of_lt_of_le (hS.fz_lt j F) q3.size,?_,?_,?_,hS.tabs.keep O M⟩,⟨O,fun _ h=>h,q3.os,q3.tape,q3.output,q3.size,ag,fun _ h=>.inl h⟩⟩
 . rcases q2.2 with⟨h,_⟩|⟨g,cap,cur,h,_⟩
   . exact⟨_,_,_,h⟩
   . exact⟨_,_,_,h⟩
 . intro j r' F;by_cases e:j=S.N
   . subst e;rw[aB]at F;injection F with F;subst F;refine⟨Nat.lt_succ_self _,by simp[Sg.addRow],al,?_,.inl ⟨xs++l,?_,?_,?_⟩⟩
     . intro cs af;rcases List.mem_append.1 af with af|af
       . exact hR.len cs af
       . exact ah cs af
     . rw[L,List.length_append];exact q2
     . rw[List.flatten_append];exact cA _ _ _ _ (cP O M _ _ hr) (cP O M _ _ hl)
     . intro x hx;rcases List.mem_append.1 hx with hx|hx
       . exact h1 x hx
       . exact ax x hx
   . obtain⟨e1,e2⟩:=Z j r' e F;exact(hS.rows j r' e2).keep O M fun g E=>q3.block g (ai j r' e1 e2 g E).2 (ai j r' e1 e2 g E).1
 . intro j r' F g E;by_cases e:j=S.N
   . subst e;rw[L]at E;exact a8 g E
   . obtain⟨e1,e2⟩:=Z j r' e F;rw[O.loc j (hS.rows j r' e2).lt]at E;exact hS.free j r' e2 g E
 . intro j j' r1 r2 F ab au g E ac;by_cases e:j=S.N
   . subst e;rw[L]at E;obtain⟨e1,e2⟩:=Z j' r2 (Ne.symm au) ab;rw[O.loc j' (hS.rows j' r2 e2).lt]at ac;exact aw j' r2 e1 e2 g ac E
   . obtain⟨e1,e2⟩:=Z j r1 e F;rw[O.loc j (hS.rows j r1 e2).lt]at E;by_cases e':j'=S.N
     . subst e';rw[L]at ac;exact aw j r1 e1 e2 g E ac
     . obtain⟨e3,e4⟩:=Z j' r2 e' ab;rw[O.loc j' (hS.rows j' r2 e4).lt]at ac;exact hS.disj j j' r1 r2 e2 e4 au g E ac
def Fj{es:List (List AV)}{ad:Option Addr}{n:Nat}(h:rep S w (.cl es) (.slice ad n n)){sz:Nat}(Z:cT sz es):
  ∃l,l.length=es.length*sz/\aR S w es.flatten l/\(∀x∈l,x.oneCell'=true)/\n=es.length/\n<=maxLen/\(es=[]\/∃b o,ad=some ⟨b,o,none⟩/\∀j x,l[j]?=some x->w.cell? ⟨b,o+j,none⟩=some x):=by
 simp only[rep]at h;obtain⟨M,n',e,rfl,J,h4⟩:=h;injection e with E e2 F;subst E e2;rcases h4 with rfl|⟨b,o,O,rfl,hb,hs,u⟩
 ·exact⟨[],by simp,by simp[aR],by simp,rfl,J,.inl rfl⟩
 ·obtain⟨l,E,e2,F,L⟩:=iF _ _ (pS es o u);refine⟨l,?_,e2,F,rfl,J,.inr ⟨b,o,rfl,L⟩⟩;rw[eF _ _ e2,iT es (eH.1 Z)]
def NW{g:Nat}{cur:Array Value}{e:TypeId}{j:Nat}(h:w.heap[g]?=some (.cells cur e (0,0)))(u:j<cur.size):(w.cell? ⟨g,j,none⟩).isSome=true:=by simp[World.cell?,h,u]
def Ik{g:Nat}{cur:Array Value}{e:TypeId}{j:Nat}(h:w.heap[g]?=some (.cells cur e (0,0))):w.frozen? ⟨g,j,none⟩=false:=by simp[World.frozen?,h]
def St.drop'{H':aD}(h:St S w H)(E:∀k r,H' k=some r->H k=some r):St S w H':=
 ⟨h.ro_fz,h.fz_lt,fun k r u=>h.rows k r (E k r u),fun k r u=>h.free k r (E k r u),fun k k' r r' u F=>h.disj k k' r r' (E k r u) (E k' r' F),h.tabs⟩
def St.newOwned(M:St S w H){e:TypeId}{sz:Nat}{es':List (List AV)}{vals:List Value}{v':Value}{w':World}(ag:0<sz)(ah:∀cs∈es',cs.length=sz)(ai:0<es'.length)
  (q2:w'.ownsRow w.heap.size e sz v' es'.length vals) (q3:w.grownBy w' none) (hr:aR S w es'.flatten vals) (h1:∀x∈vals,x.oneCell'=true):
  (∃a n c,v'=.slice a n c)/\St (S.addRow v' sz) w' (aE H S.N (some ⟨e,sz,es'⟩))/\Grow S w (S.addRow v' sz) w'/\∃g cap,v'=.slice (some ⟨g,0,none⟩) es'.length cap/\es'.length<=cap:=by
 obtain⟨g,cap,cur,hv,hg0,hg,hnc,hcm,hcs,htk⟩:∃g cap cur,v'=.slice (some ⟨g,0,none⟩) es'.length cap/\w.heap.size<=g/\w'.heap[g]?=some (.cells cur e (0,0))/\es'.length<=cap/\cap<=maxLen/\cur.size=cap*sz/\cur.toList.take (es'.length*sz)=vals:=by
  rcases q2.2 with⟨_,h⟩|⟨g,cap,cur,h1,h2,h3,h4,h5,h6,h7⟩
  ·omega
  ·exact⟨g,cap,cur,h1,h2,h3,h4,h5,h6,h7⟩
 subst hv;have ab:∀k,k<w.heap.size->w'.heap[k]?=w.heap[k]?:=fun k E=>q3.block k E (by simp)
 have aa:eG S w w':=fun k E=>ab k (M.fz_lt k (M.ro_fz k E))
 have O:=S.le_addRow (.slice (some ⟨g,0,none⟩) es'.length cap) sz;have F:(S.addRow (.slice (some ⟨g,0,none⟩) es'.length cap) sz).loc S.N=.slice (some ⟨g,0,none⟩) es'.length cap:=by simp[Sg.addRow]
 have L:∀k r,k≠S.N->aE H S.N (some ⟨e,sz,es'⟩) k=some r->H k=some r:=fun k r E h=>by rwa [aC _ _ _ _ E]at h
 refine⟨⟨_,_,_,rfl⟩,⟨M.ro_fz,fun k E=>Nat.lt_of_lt_of_le (M.fz_lt k E) q3.size,?_,?_,?_,M.tabs.keep O aa⟩,⟨O,fun _ h=>h,q3.os,q3.tape,q3.output,q3.size,fun k E=>ab k (M.fz_lt k E),fun _ h=>.inl h⟩,g,cap,rfl,hnc⟩
 ·intro k r E;by_cases e0:k=S.N
  ·subst e0;rw[aB]at E;injection E with E;subst E;refine⟨Nat.lt_succ_self _,by simp[Sg.addRow],ag,ah,.inl ⟨vals,?_,cP O aa _ _ hr,h1⟩⟩;rw[F];exact⟨q2.1,.inr ⟨g,cap,cur,rfl,Nat.zero_le _,hg,hnc,hcm,hcs,htk⟩⟩
  ·have J:=L k r e0 E;exact(M.rows k r J).keep O aa fun g' u=>ab g' ((M.rows k r J).block_lt u)
 ·intro k r E g' u;by_cases e0:k=S.N
  ·subst e0;rw[F]at u;simp only[blk,Option.some.injEq]at u;subst u;exact fun h=>by have:=M.fz_lt _ h;omega
  ·have J:=L k r e0 E;rw[O.loc k (M.rows k r J).lt]at u;exact M.free k r J g' u
 ·intro k k' r r' E J ae g' u Z;by_cases e0:k=S.N
  ·subst e0;rw[F]at u;simp only[blk,Option.some.injEq]at u;subst u;have ac:=L k' r' (Ne.symm ae) J;rw[O.loc k' (M.rows k' r' ac).lt]at Z;have:=(M.rows k' r' ac).block_lt Z;omega
  ·have ac:=L k r e0 E;rw[O.loc k (M.rows k r ac).lt]at u;by_cases e1:k'=S.N
   ·subst e1;rw[F]at Z;simp only[blk,Option.some.injEq]at Z;subst Z;have:=(M.rows k r ac).block_lt u;omega
   ·have af:=L k' r' e1 J;rw[O.loc k' (M.rows k' r' af).lt]at Z;exact M.disj k k' r r' ac af ae g' u Z
def St.appendNew(hS:St S w H){es:List (List AV)}{us:Value}(an:rep S w (.cl es) us){t ty e:TypeId}{sz E:Nat}(he:bM P t=some (e,sz,E)){news:List (List AV)}{u:Value}(hu:nS S w u news)(ah:news≠[])
   (au:cT sz es) (ae:cT sz news) (hb:(es.length+news.length)*E<=140737488355328):
   ∃J w',(Builtin.append_ #[t,t] ty #[us,u]).run P w=.ok J w'/\(∃a n c,J=.slice a n c) /\
     St (S.addRow J sz) w' (aE H S.N (some ⟨e,sz,es++news⟩))/\Grow S w (S.addRow J sz) w':=by
 obtain⟨ai,z,af,hi,ak,ap,O,aa,hz,aj⟩:=dU he;have Z:=an;simp only[rep]at Z;obtain⟨al,n0,rfl,_⟩:=Z;obtain⟨l0,ac,ay,av,rfl,a5,aq⟩:=Fj an au;obtain⟨ad,c,l,rfl,hl,ao,ag⟩:=hu;have M:=eH.1 ae;have ar:=eH.1 au;have am:l.length=news.length*sz:=by rw[eF _ _ hl,iT news M]
 have a4:0<news.length:=List.length_pos_iff.2 ah;have az:es.length+news.length<=140737488355328:=Nat.le_trans (Nat.le_mul_of_pos_right _ aa) hb;obtain⟨b,o,rfl,hcell⟩:∃b o,ad=some ⟨b,o,none⟩/\∀j x,l[j]?=some x->w.cell? ⟨b,o+j,none⟩=some x:=by
   rcases ag with h|h
   . exact absurd h ah
   . exact h
 have F:∀j x,l[j]?=some x->w.cell? ((⟨b,o,none⟩:Addr).add j)=some x:=fun j x hj=>by rw[Addr.add_lit];exact hcell j x hj
 have aw:∃J w',(Builtin.append_ #[t,t] ty #[.slice al es.length es.length,.slice (some ⟨b,o,none⟩) news.length c]).run P w=.ok J w'/\w'.ownsRow w.heap.size e sz J (es.length+news.length) (l0++l)/\w.grownBy w' none:=by
   cases al with
   | none=>
     have ax:es=[]:=by
       rcases aq with h|⟨_,_,h,_⟩
       . exact h
       . cases h
     subst ax;obtain rfl:l0=[]:=List.eq_nil_of_length_eq_zero (by simpa using ac);obtain⟨J,w',q1,q2,q3,_⟩:=run_append_own (P:=P) w w.heap.size t ty e ai z sz E af hi hz ak ap aj O (.slice none 0 0) 0 [] (World.ownsRow_nil w _ e sz) ⟨b,o,none⟩ news.length c l am F ao (by simp only[maxLen];omega) hb (Nat.le_refl _);exact⟨J,w',q1,q2,q3⟩
   | some a0=>
     have ab:∀j x,l0[j]?=some x->w.cell? (a0.add j)=some x:=by
       rcases aq with h|⟨b0,o0,h,hc⟩
       . subst h;obtain rfl:l0=[]:=List.eq_nil_of_length_eq_zero (by simpa using ac);simp
       . injection h with h;subst h;intro j x hj;rw[Addr.add_lit];exact hc j x hj
     exact run_append_arg_grows (P:=P) w t ty e ai z sz E af hi hz ak ap aj O a0 es.length es.length l0 ac ab ⟨b,o,none⟩ news.length c l am F (by omega) (by simp only[maxLen];omega) hb
 obtain⟨J,w',q1,q2,q3⟩:=aw;have hf:(es++news).flatten=es.flatten++news.flatten:=List.flatten_append;obtain ⟨p1, p2, p3, _⟩ := hS.newOwned (es' := es ++ news) O (fun cs L => by
     rcases List.mem_append.1 L with L|L
     . exact ar cs L
     . exact M cs L) (by simp;omega) (by rw[List.length_append];exact q2) q3 (by rw[hf];exact cA _ _ _ _ ay hl) (fun x hx=>by
     rcases List.mem_append.1 hx with hx|hx
     . exact av x hx
     . exact ao x hx)
 exact⟨J,w',q1,p1,p2,p3⟩
def St.appendOz(hS:St S w H){k a b:Nat}{r:Row}(hk:H k=some r){us:Value}(a8:rep S w (.oz k a b) us){t ty:TypeId}{M:Nat}(he:bM P t=some (r.e,r.sz,M)){news:List (List AV)}{u:Value}(hu:nS S w u news)
   (ae:news≠[]) (hb:b=r.es.length) (Z:cT r.sz news) (J:(r.es.length+news.length)*M<=140737488355328):
   ∃v' w' vl ac,(Builtin.append_ #[t,t] ty #[us,u]).run P w=.ok v' w'/\St (S.addRow vl r.sz) w' (aE (aE H k none) S.N (some ⟨r.e,r.sz,ac++(r.es.drop a++news)⟩))/\Grow S w (S.addRow vl r.sz) w' /\
     rep (S.addRow vl r.sz) w' (.oz S.N ac.length (ac.length+(b-a)+news.length)) v'/\ac.length<=a:=by
 have hR:=hS.rows k r hk;obtain⟨ak,z,an,hi,af,ba,aj,al,hz,a4⟩:=dU he;have ah:=a8;simp only[rep]at ah;obtain⟨bj,bq,n0,c0,au,cc,F,rfl,bp,bu,ay,bf,bs,br,bo⟩:=ah;have ai:∀x:Option Row,∀j r',aE (aE H k none) S.N x j=some r'->aE H S.N x j=some r':=fun x j r' h=>by
   by_cases e:j=S.N
   . subst e;rw[aB]at h |-;exact h
   . rw[aC _ _ _ _ e]at h |-;by_cases e2:j=k
     . subst e2;rw[aB]at h;cases h
     . rw[aC _ _ _ _ e2]at h;exact h
 have bh:=hu;obtain⟨ad,c,l,rfl,hl,aw,ao⟩:=bh;have aa:=eH.1 Z;have ar:l.length=news.length*r.sz:=by rw[eF _ _ hl,iT news aa]
 have bt:0<news.length:=List.length_pos_iff.2 ae;have bm:r.es.length+news.length<=140737488355328:=Nat.le_trans (Nat.le_mul_of_pos_right _ al) J;obtain⟨bn,on,rfl,hcell⟩:∃b o,ad=some ⟨b,o,none⟩/\∀j x,l[j]?=some x->w.cell? ⟨b,o+j,none⟩=some x:=by
   rcases ao with h|h
   . exact absurd h ae
   . exact h
 have O:∀j x,l[j]?=some x->w.cell? ((⟨bn,on,none⟩:Addr).add j)=some x:=fun j x hj=>by rw[Addr.add_lit];exact hcell j x hj
 rcases Nat.lt_or_ge 0 cc with a0|a0
 . obtain⟨g,rfl,rfl⟩:=ay a0;obtain⟨xs,ho,hr,h1⟩:=hR.sl F;obtain⟨cur,hgc,L,htk,rfl⟩:∃cur,w.heap[g]?=some (.cells cur r.e (0,0))/\cur.size=c0*r.sz/\cur.toList.take (r.es.length*r.sz)=xs/\n0=r.es.length:=by
     rcases ho.2 with⟨hv,_⟩|⟨g',cap,cur,hv,_,h3,h4,h5,h6,h7⟩
     . rw[F]at hv;cases hv
     . rw[F]at hv;injection hv with e1 e2 e3;injection e1 with e1;injection e1 with e1;subst e1 e2 e3;exact⟨cur,h3,h6,h7,rfl⟩
   have bg:xs.length=r.es.length*r.sz:=ho.1;have a7:∀j x,xs[j]?=some x->w.cell? ⟨g,j,none⟩=some x:=fun j x hj=>by
     have:=ho.cells (g:=g) (by rw[F];rfl) j x hj
     rwa [Addr.add_lit,Nat.zero_add]at this
   subst hb;rcases Nat.lt_or_ge cc (r.es.length-a+news.length)with am|bd
   . have a5 : ∀ j x, (xs.drop (a * r.sz))[j]? = some x -> w.cell? ((⟨g, a * S.sz k, none⟩ : Addr).add j) = some x := fun j x hj => by rw[List.getElem?_drop]at hj;rw[Addr.add_lit,<-hR.sz];exact a7 _ _ hj
     obtain⟨v',w',q1,q2,q3⟩:=run_append_arg_grows (P:=P) w t ty r.e ak z r.sz M an hi hz af ba a4 aj ⟨g,a*S.sz k,none⟩ (r.es.length-a) cc (xs.drop (a*r.sz)) (by rw[List.length_drop,bg,Nat.sub_mul]) a5 ⟨bn,on,none⟩ news.length c l ar O am (by simp only[maxLen];omega)
       (Nat.le_trans (Nat.mul_le_mul_right _ (by omega)) J)
     have ag:(r.es.drop a++news).length=r.es.length-a+news.length:=by simp
     have be:aR S w (r.es.drop a).flatten (xs.drop (a*r.sz)):=by rw[rC r.es a hR.len];exact lZ _ _ _ hr
     obtain ⟨_, p2, p3, g', cap', rfl, ax⟩ := hS.newOwned (es' := r.es.drop a ++ news) (vals := xs.drop (a * r.sz) ++ l) aj (fun cs L => by
         rcases List.mem_append.1 L with L|L
         . exact hR.len cs (List.mem_of_mem_drop L)
         . exact aa cs L) (by rw[ag];omega) (by rw[ag];exact q2) q3 (by rw[List.flatten_append];exact cA _ _ _ _ be hl) (fun x hx=>by
         rcases List.mem_append.1 hx with hx|hx
         . exact h1 x (List.mem_of_mem_drop hx)
         . exact aw x hx)
     refine⟨_,w',_,[],q1,p2.drop' (ai _),p3,?_,Nat.zero_le _⟩;simp only[rep,List.length_nil,Nat.zero_add,Sg.addRow,if_true];exact⟨Nat.lt_succ_self _,_,_,_,_,_,rfl,by rw[ag];rfl,Nat.zero_le _,by rw[ag];exact Nat.le_refl _,fun _=>⟨g',rfl,by rw[Nat.zero_mul]⟩,fun _=>rfl,ax,by omega,by omega⟩
   . have av : ∀ off E cap, off + E * ak.size = r.es.length * r.sz -> E + news.length <= cap -> (Builtin.append_ #[t, t] ty #[.slice (some ⟨g, off, none⟩) E cap, .slice (some ⟨bn, on, none⟩) news.length c]).run P w = .ok (.slice (some ⟨g, off, none⟩) (E + news.length) cap) (w.setCells g (r.es.length * r.sz) l) := fun off E cap ab a6 => by
       have bb:∀j,j<l.length->r.es.length*r.sz+j<cur.size:=fun j hj=>by have:(r.es.length+news.length)*r.sz<=c0*r.sz:=Nat.mul_le_mul_right _ (by omega);rw[Nat.add_mul]at this;rw[L];omega
       have:=run_append_room_cells (P:=P) w t ty r.e ak an hi g off E cap ⟨bn,on,none⟩ news.length c l (by rw[af];exact ar) O aw a6
         (fun j hj=>by rw[ab];exact NW hgc (bb j hj)) (fun j hj=>by rw[ab];exact Ik hgc)
       rw[ab]at this;exact this
     have r1:=av 0 r.es.length c0 (by rw[af,Nat.zero_add]) (by omega);have r2:=av (a*S.sz k) (r.es.length-a) cc (by rw[af,<-hR.sz,<-Nat.add_mul];congr 1;omega) (by omega);obtain⟨v1,w1,q1,_,q2,q3⟩:=hS.append hk F (ty:=ty) he hu Z J;rw[F,r1]at q1;injection q1 with e1 e2;subst e1 e2;have aq:(r.es.take a).length=a:=by rw[List.length_take];omega
     refine⟨_,_,_,r.es.take a,r2,?_,q3,?_,Nat.le_of_eq aq⟩
     . rw[<-List.append_assoc,List.take_append_drop];exact q2
     . simp only[rep,Sg.addRow,if_true];rw[aq];exact⟨Nat.lt_succ_self _,_,_,_,_,_,rfl,congrArg (fun m=>Value.slice _ m _) (by omega),by omega,by omega,fun _=>⟨g,rfl,by rw[<-hR.sz]⟩,fun h0=>by subst h0;rw[Nat.zero_mul],by omega,by omega,by omega⟩
 . have e0:r.es.drop a=[]:=List.drop_eq_nil_of_le (by omega);have a9:cc=0:=by omega
   have ap:b-a=0:=by omega
   obtain⟨v',w',q1,⟨x1,x2,x3,rfl⟩,q2,q3⟩:=hS.appendNew (es:=[]) (us:=.slice au (b-a) cc) (by simp only[rep];exact⟨au,0,by rw[a9,ap],rfl,Nat.zero_le _,.inl trivial⟩) (ty:=ty) he hu ae trivial Z (by simpa using Nat.le_trans (Nat.mul_le_mul_right _ (Nat.le_add_left _ _)) J);have az:=q2.rows S.N _ (aB _ _ _);obtain⟨bk,ab,_,_⟩:=az.sl (by simp[Sg.addRow]:(S.addRow (.slice x1 x2 x3) r.sz).loc S.N=.slice x1 x2 x3);have bc:(S.addRow (.slice x1 x2 x3) r.sz).loc S.N=.slice x1 x2 x3:=by simp[Sg.addRow]
   obtain⟨g',rfl,rfl,hc3⟩:∃g',x1=some ⟨g',0,none⟩/\x2=news.length/\news.length<=x3:=by
     rcases ab.2 with⟨_,hn⟩|⟨g',cap',bi,hv,_,_,h4,_⟩
     . simp at hn;exact absurd hn ae
     . rw[bc]at hv;injection hv with e1 e2 e3;subst e3;simp at e2 h4;exact⟨g',e1,e2,h4⟩
   refine⟨_,w',_,[],q1,?_,q3,?_,Nat.zero_le _⟩
   . rw[e0];exact q2.drop' (ai _)
   . simp only[rep,List.length_nil,Nat.zero_add,Sg.addRow,if_true,ap];exact⟨Nat.lt_succ_self _,_,_,_,_,_,rfl,by rw[Nat.sub_zero],Nat.zero_le _,Nat.le_refl _,fun _=>⟨g',rfl,by rw[Nat.zero_mul]⟩,fun _=>rfl,hc3,by omega,by omega⟩
end
end Go.Aw
end
section
namespace Go.Aw
open Go.RowKit
mutual
inductive Conv (H:aD):AV->AV->Prop
 | refl (x:AV):Conv H x x
 | any (x:AV):Conv H x .any
 | row (k:Nat) (r:Row) (es:List (List AV)):H k=some r->ConvE H r.es es->Conv H (.os k) (.sl es)
 | part0 (k a:Nat) (r:Row):H k=some r->Conv H (.oz k a a) (.sl [])
 | sl (es es':List (List AV)):ConvE H es es'->Conv H (.sl es) (.sl es')
 | agg (cs cs':List AV):ConvL H cs cs'->Conv H (.agg cs) (.agg cs')
 | tup (cs cs':List AV):ConvL H cs cs'->Conv H (.tup cs) (.tup cs')
 | ptr (k i f:Nat) (r:Row) (cs:List AV):H k=some r->i<r.es.length->ConvL H (r.es.getD i []) cs->Conv H (.op k i f) (.rp cs f)
 | fn (f:FuncId) (cap cap':List AV):ConvL H cap cap'->Conv H (.fn f cap) (.fn f cap')
inductive ConvL (H:aD):List AV->List AV->Prop
 | nil:ConvL H [] []
 | cons (x y:AV) (r s:List AV):Conv H x y->ConvL H r s->ConvL H (x::r) (y::s)
inductive ConvE (H:aD):List (List AV)->List (List AV)->Prop
 | nil:ConvE H [] []
 | cons (x y:List AV) (r s:List (List AV)):ConvL H x y->ConvE H r s->ConvE H (x::r) (y::s)
end
def ConvL.refl{H:aD}:∀l,ConvL H l l
 | []=>.nil
 | x::r=>.cons x x r r (.refl x) (ConvL.refl r)
def ConvE.refl{H:aD}:∀l,ConvE H l l
 | []=>.nil
 | x::r=>.cons x x r r (ConvL.refl x) (ConvE.refl r)
def Sg.froze(S:Sg)(H:aD):Sg:=
 { S with ro:=fun g=>S.ro g\/∃k r,H k=some r/\blk (S.loc k)=some g,fz:=fun g=>S.fz g\/∃k r,H k=some r/\blk (S.loc k)=some g }
def Sg.le_froze(S:Sg)(H:aD):S.le (S.froze H):=⟨fun _ h=>.inl h,Nat.le_refl _,fun _ _=>rfl,fun _ _=>rfl⟩
section
variable{S:Sg}{w:World}{H:aD}
def ConvE.len:∀{es es':List (List AV)},ConvE H es es'->es'.length=es.length
 | _,_,.nil=>rfl
 | _,_,.cons _ _ _ _ _ h=>by simp[ConvE.len h]
mutual
theorem Conv.rep(O:St S w H):∀{x y:AV} {u:Value},Conv H x y->rep S w x u->Aw.rep (S.froze H) w y u
 | _,_,_,.refl x,h=>gY (S.le_froze H) (eG.refl S w) _ _ h
 | _,_,_,.any x,_=>by simp only[Aw.rep]
 | _,_,u,.row k r es hk L,h=>by
  simp only[Aw.rep]at h |-;obtain⟨_,rfl,_,_,_,Z⟩:=h;have hR:=O.rows k r hk;obtain⟨xs,ho,hr,h1⟩:=hR.sl Z;rcases ho.2 with⟨F,hn⟩|⟨g,cap,cur,F,_,h2,h3,h4,h5⟩
  ·have h0:=List.eq_nil_of_length_eq_zero hn;refine⟨none,0,0,F,by rw[L.len,hn],Nat.le_refl _,Nat.zero_le _,.inl ?_⟩;exact List.eq_nil_of_length_eq_zero (by rw[L.len,hn])
  ·refine⟨_,_,cap,F,L.len,h3,h4,.inr ⟨g,0,r.sz,rfl,.inr ⟨k,r,hk,by rw[F];rfl⟩,hR.pos,?_⟩⟩;refine ConvE.rep O L ?_;refine kW _ _ hR.len (fE _ xs 0 hr h1 fun j u hu=>?_);have:=ho.cells (g:=g) (by rw[F];rfl) j u hu
   rwa [Addr.add_lit]at this
 | _,_,_,.part0 k a r hk,h=>by
  simp only[Aw.rep]at h |-;obtain⟨_,ad,n,c,ab,cc,E,rfl,h1,h2,h3,h4,h5,h6,h7⟩:=h;have hR:=O.rows k r hk;obtain⟨xs,ho,_,_⟩:=hR.sl E;have M:c<=maxLen:=by
   rcases ho.2 with⟨F,_⟩|⟨g,cap,cur,F,_,_,_,h8,_⟩
   ·rw[E]at F;cases F;exact Nat.zero_le _
   ·rw[E]at F;cases F;exact h8
  exact⟨ab,a-a,cc,rfl,(Nat.sub_self a).symm,h6,Nat.le_trans h7 (Nat.le_trans (Nat.sub_le c a) M),.inl trivial⟩
 | _,_,_,.sl es es' L,h=>by
  simp only[Aw.rep]at h |-;obtain⟨ad,n,c,rfl,h1,h2,h3,h4⟩:=h;refine⟨ad,n,c,rfl,by rw[L.len,h1],h2,h3,?_⟩;rcases h4 with h4|⟨b,o,sz,rfl,hb,hs,aa⟩
  ·exact .inl (List.eq_nil_of_length_eq_zero (by rw[L.len,h4];rfl))
  ·exact .inr ⟨b,o,sz,rfl,.inl hb,hs,ConvE.rep O L aa⟩
 | _,_,_,.agg cs cs' M,h=>by simp only[Aw.rep]at h |-;obtain⟨l,rfl,h1,h2⟩:=h;exact⟨l,rfl,ConvL.rep O M h1,h2⟩
 | _,_,_,.tup cs cs' M,h=>by simp only[Aw.rep]at h |-;obtain⟨l,rfl,h1⟩:=h;exact⟨l,rfl,ConvL.rep O M h1⟩
 | _,_,_,.ptr k i f r cs hk hi M,h=>by
  simp only[Aw.rep]at h |-;obtain⟨_,g,n,c,E,rfl⟩:=h;have hR:=O.rows k r hk;have ac:r.es≠[]:=fun e=>by rw[e]at hi;simp at hi
  obtain⟨g',n',c',J,L,_⟩:=hR.els E ac;rw[E]at J;injection J with e1 e2 e3;injection e1 with e1;injection e1 with e1;subst e1;obtain⟨e4,e5⟩:=mE _ 0 i L hi;rw[Nat.zero_add,hR.sz]at e5;exact⟨g,i*S.sz k,rfl,.inr ⟨k,r,hk,by rw[E];rfl⟩,(ConvL.cells O M e5).1⟩
 | _,_,_,.fn f cap cap' M,h=>by simp only[Aw.rep]at h |-;obtain⟨l,rfl,h1⟩:=h;exact⟨l,rfl,ConvL.rep O M h1⟩
theorem ConvL.rep(E:St S w H):∀{x y:List AV} {l:List Value},ConvL H x y->aR S w x l->aR (S.froze H) w y l
 | _,_,_,.nil,h=>h
 | _,_,_,.cons x y r s hx hr,h=>by simp only[aR]at h |-;obtain⟨u,t,rfl,h1,F⟩:=h;exact⟨u,t,rfl,Conv.rep E hx h1,ConvL.rep E hr F⟩
theorem ConvL.cells(E:St S w H){b:Nat}:∀{x y:List AV} {o:Nat},ConvL H x y->bW S w b o x->bW (S.froze H) w b o y/\y.length=x.length
 | _,_,_,.nil,_=>⟨trivial,rfl⟩
 | _,_,o,.cons x y r s hx hr,h=>by simp only[bW]at h |-;obtain⟨⟨u,h1,M,L⟩,J⟩:=h;obtain⟨F,e2⟩:=ConvL.cells E hr J;exact⟨⟨⟨u,h1,M,Conv.rep E hx L⟩,F⟩,by simp[e2]⟩
theorem ConvE.rep(u:St S w H){b sz:Nat}:∀{x y:List (List AV)} {o:Nat},ConvE H x y->eB S w b sz o x->eB (S.froze H) w b sz o y
 | _,_,_,.nil,_=>trivial
 | _,_,o,.cons x y r s hx hr,h=>by simp only[eB]at h |-;obtain⟨h1,J,F⟩:=h;obtain⟨E,e2⟩:=ConvL.cells u hx J;exact⟨by rw[e2,h1],E,ConvE.rep u hr F⟩
end
end
mutual
def fv:AV->Option Value
 | .v x=>some x
 | .tup vs=>(fvL vs).map fun l=>.tuple l.toArray
 | .agg vs=>(fvL vs).map fun l=>.agg l.toArray
 | _=>none
def fvL:List AV->Option (List Value)
 | []=>some []
 | x::r=>match fv x,fvL r with
   | some u,some l=>some (u::l)
   | _,_=>none
end
mutual
theorem Ky{S:Sg}{w:World}:∀{x:AV} {u v:Value},fv x=some v->rep S w x u->u=v
 | .v x,u,v,h,hr=>by simp only[fv]at h;injection h with h;subst h;simpa only[rep]using hr
 | .tup vs,u,v,h,hr=>by
  simp only[fv]at h;cases E:fvL vs with
  | none=>simp[E]at h
  | some l=>simp[E]at h;subst h;simp only[rep]at hr;obtain⟨l',rfl,h1⟩:=hr;rw[Fo E h1]
 | .agg vs,u,v,h,hr=>by
  simp only[fv]at h;cases E:fvL vs with
  | none=>simp[E]at h
  | some l=>simp[E]at h;subst h;simp only[rep]at hr;obtain⟨l',rfl,h1,_⟩:=hr;rw[Fo E h1]
 | .any,_,_,h,_=>by simp[fv]at h
 | .sl _,_,_,h,_=>by simp[fv]at h
 | .rp _ _,_,_,h,_=>by simp[fv]at h
 | .os _,_,_,h,_=>by simp[fv]at h
 | .op _ _ _,_,_,h,_=>by simp[fv]at h
 | .gd _ _,_,_,h,_=>by simp[fv]at h
 | .fn _ _,_,_,h,_=>by simp[fv]at h
 | .nf _,_,_,h,_=>by simp[fv]at h
 | .oz _ _ _,_,_,h,_=>by simp[fv]at h
 | .cl _,_,_,h,_=>by simp[fv]at h
theorem Fo{S:Sg}{w:World}:∀{x:List AV} {u v:List Value},fvL x=some v->aR S w x u->u=v
 | [],u,v,h,hr=>by simp only[fvL]at h;injection h with h;subst h;simpa only[aR]using hr
 | x::r,u,v,h,hr=>by
  simp only[fvL]at h;cases h1:fv x with
  | none=>simp[h1]at h
  | some a=>
   cases E:fvL r with
   | none=>simp[h1,E]at h
   | some l=>simp[h1,E]at h;subst h;simp only[aR]at hr;obtain⟨J,t,rfl,F,e2⟩:=hr;rw[Ky h1 F,Fo E e2]
end
mutual
theorem OL{S J:Sg}{w F:World}:∀{x:AV} {u v:Value},fv x=some v->rep S w x u->rep J F x u
 | .v x,u,v,h,hr=>by simpa only[rep]using hr
 | .tup vs,u,v,h,hr=>by
  simp only[fv]at h;cases E:fvL vs with
  | none=>simp[E]at h
  | some l=>simp only[rep]at hr |-;obtain⟨l',rfl,h1⟩:=hr;exact⟨l',rfl,EN E h1⟩
 | .agg vs,u,v,h,hr=>by
  simp only[fv]at h;cases E:fvL vs with
  | none=>simp[E]at h
  | some l=>simp only[rep]at hr |-;obtain⟨l',rfl,h1,L⟩:=hr;exact⟨l',rfl,EN E h1,L⟩
 | .any,_,_,h,_=>by simp[fv]at h
 | .sl _,_,_,h,_=>by simp[fv]at h
 | .rp _ _,_,_,h,_=>by simp[fv]at h
 | .os _,_,_,h,_=>by simp[fv]at h
 | .op _ _ _,_,_,h,_=>by simp[fv]at h
 | .gd _ _,_,_,h,_=>by simp[fv]at h
 | .fn _ _,_,_,h,_=>by simp[fv]at h
 | .nf _,_,_,h,_=>by simp[fv]at h
 | .oz _ _ _,_,_,h,_=>by simp[fv]at h
 | .cl _,_,_,h,_=>by simp[fv]at h
theorem EN{S M:Sg}{w L:World}:∀{x:List AV} {u v:List Value},fvL x=some v->aR S w x u->aR M L x u
 | [],u,v,h,hr=>by simpa only[aR]using hr
 | x::r,u,v,h,hr=>by
  simp only[fvL]at h;cases h1:fv x with
  | none=>simp[h1]at h
  | some a=>
   cases E:fvL r with
   | none=>simp[h1,E]at h
   | some l=>simp only[aR]at hr |-;obtain⟨F,t,rfl,J,e2⟩:=hr;exact⟨F,t,rfl,OL h1 J,EN E e2⟩
end
def Us(S:Sg)(w:World)(H:aD)(R:AV->aD->Prop)(e:Ending)(w':World):Prop:=
 ∃v r H' S',e=.returned v/\R r H'/\St S' w' H'/\rep S' w' r v/\Grow S w S' w'/\dK S.N H H'
def aI(P:Program)(f:FuncId)(args:List AV)(H:aD)(R:AV->aD->Prop):Prop:=
 ∀S w (vals:List Value),St S w H->aR S w args vals->Calls P f vals.toArray w (Us S w H R)
def bJ:aD:=fun _=>none
def RC(P:Program)(f:FuncId)(args:List AV)(R:AV->aD->Prop):Prop:=
 ∀S w (vals:List Value),St S w bJ->(∀k,k<w.heap.size->S.fz k)->aR S w args vals->Calls P f vals.toArray w (Us S w bJ R)
def PC(P:Program)(f:FuncId)(args:List AV)(r:AV):Prop:=RC P f args fun x _=>x=r
def yP(P:Program)(f:FuncId)(args:List AV)(H:aD)(r:AV):Prop:=∃args',ConvL H args args'/\PC P f args' r/\(fv r).isSome=true
def dV(P:Program)(f:FuncId)(args:List AV)(H:aD)(r:AV):Prop:=yP P f args H r\/∃x,r=.nf x/\PC P f args x
def GX{q:Bool}{r:AV}{K:AV->Prop}(h:(fv r).isSome=true):nfq q r K=K r:=by cases q <;> cases r <;> first|rfl|(simp[fv]at h)
def Gd{q:Bool}{r:AV}{K:AV->Prop}(h:nfq q r K):∃z,K z:=by
 unfold nfq at h;split at h
 ·exact h.elim
 ·exact⟨_,h⟩
 ·exact⟨_,h⟩
section
variable{P:Program}{f:FuncId}{args:List AV}{H:aD}{R K:AV->aD->Prop}
def St.drop{S:Sg}{w:World}{H':aD}(h:St S w H)(E:∀k r,H' k=some r->H k=some r):St S w H':=
 ⟨h.ro_fz,h.fz_lt,fun k r u=>h.rows k r (E k r u),fun k r u=>h.free k r (E k r u),fun k k' r r' u F=>h.disj k k' r r' (E k r u) (E k' r' F),h.tabs⟩
def RC.conv{r:AV}(h:RC P f args fun x H'=>Conv H' x r):PC P f args r:=fun S w vals hS hf Z=>
 (h S w vals hS hf Z).mono fun e w' ⟨v,x,H',S',O,M,E,L,J,hn⟩=>by
  refine⟨v,r,bJ,S'.froze H',O,rfl,⟨?_,?_,fun k r F=>by simp[bJ]at F,fun k r F=>by simp[bJ]at F,fun k k' r r' F=>by simp[bJ]at F,E.tabs.keep (S'.le_froze H') (eG.refl S' w')⟩,M.rep E L,?_,fun _ _ _=>rfl⟩
  ·rintro g (u|u)
   ·exact .inl (E.ro_fz g u)
   ·exact .inr u
  ·rintro g (u|⟨k,row,F,u⟩)
   ·exact E.fz_lt g u
   ·exact(E.rows k row F).block_lt u
  ·refine⟨Sg.le_trans J.le (S'.le_froze H'),fun k F=>.inl (J.fz k F),J.os,J.tape,J.output,J.size,J.same,?_⟩;rintro g (u|⟨k,row,F,u⟩)
   ·exact J.newro g u
   ·exact .inr fun h2=>E.free k row F g u (J.fz g h2)
def merge(H H':aD):aD:=fun k=>match H' k with|some r=>some r|none=>H k
def RC.frame(h:RC P f args R)(hK:∀r H',R r H'->(∀k row,H' k=some row->H k=none)->∃ab,K r ab/\(∀k row,ab k=some row->merge H H' k=some row)/\∀k,H k=none->H' k=none->ab k=none):
  aI P f args H K:=by
 intro S w vals F ha
 let S0:Sg:={ S with fz:=fun k=>k<w.heap.size }
 have ap:S.le S0:=⟨fun _ h=>h,Nat.le_refl _,fun _ _=>rfl,fun _ _=>rfl⟩;have ar:St S0 w bJ:=⟨fun k u=>F.fz_lt k (F.ro_fz k u),fun _ h=>h,fun k r u=>by simp[bJ]at u,fun k r u=>by simp[bJ]at u,fun k k' r r' u=>by simp[bJ]at u,F.tabs⟩;refine(h S0 w vals ar (fun _ h=>h) (cP ap (eG.refl S w) _ _ ha)).mono fun e w' ⟨v,x,H',S',he,hx,L,hv,hg,hn⟩=>?_
 have ao:∀k row,H' k=some row->S.N<=k:=fun k row u=>by
  rcases Nat.lt_or_ge k S.N with ah|ak
  ·rw[hn k ah rfl]at u;simp at u
  ·exact ak
 have aj:∀k row,H' k=some row->H k=none:=fun k row u=>by
  cases hH:H k with
  | none=>rfl
  | some r=>have:=(F.rows k r hH).lt;have:=ao k row u;omega
 obtain⟨ab,av,au,aq⟩:=hK x H' hx aj
 let S'':Sg:={ S' with fz:=fun k=>S.fz k\/(S'.fz k/\w.heap.size<=k)\/S'.ro k }
 have aa:S'.le S'':=⟨fun _ h=>h,Nat.le_refl _,fun _ _=>rfl,fun _ _=>rfl⟩;have al:∀k,k<S.N->S'.loc k=S.loc k:=hg.le.loc;have af:S.le S'':=⟨fun k u=>hg.le.ro k u,hg.le.N,hg.le.loc,hg.le.sz⟩;have O:∀k,k<w.heap.size->w'.heap[k]?=w.heap[k]?:=hg.same;have ai:eG S w w':=fun k u=>O k (F.fz_lt k (F.ro_fz k u))
 have ag:∀k r,H k=some r->RowOK S'' w' k r:=fun k r u=>(F.rows k r u).keep af ai fun g E=>O g ((F.rows k r u).block_lt E)
 have ac:∀k r,H' k=some r->RowOK S'' w' k r:=fun k r u=>(L.rows k r u).keep aa (eG.refl S' w') fun _ _=>rfl
 have J:∀k r,H k=some r->∀g,blk (S''.loc k)=some g->blk (S.loc k)=some g/\g<w.heap.size:=fun k r u g E=>by have h1:S''.loc k=S.loc k:=al k (F.rows k r u).lt;rw[h1]at E;exact⟨E,(F.rows k r u).block_lt E⟩
 have M:∀k r,H' k=some r->∀g,blk (S''.loc k)=some g->¬S'.fz g/\w.heap.size<=g:=fun k r u g E=>by
  have h1:=L.free k r u g E;refine⟨h1,?_⟩;rcases Nat.lt_or_ge g w.heap.size with ah|ak
  ·exact absurd (hg.fz g ah) h1
  ·exact ak
 have mU:∀k r,merge H H' k=some r->H' k=some r\/(H k=some r/\H' k=none):=fun k r u=>by
  unfold merge at u;cases h':H' k with
  | none=>rw[h']at u;exact .inr ⟨u,rfl⟩
  | some r'=>rw[h']at u;exact .inl u
 have hM:St S'' w' (merge H H'):=by
  refine⟨fun k u=>.inr (.inr u),?_,?_,?_,?_,L.tabs⟩
  ·rintro k (u|u|u)
   ·exact Nat.lt_of_lt_of_le (F.fz_lt k u) hg.size
   ·exact L.fz_lt k u.1
   ·exact L.fz_lt k (L.ro_fz k u)
  ·intro k r u;rcases mU k r u with h'|⟨h',_⟩
   ·exact ac k r h'
   ·exact ag k r h'
  ·intro k r u g E hf;rcases mU k r u with h'|⟨h',_⟩
   ·obtain⟨e1,e2⟩:=M k r h' g E;rcases hf with hf|hf|hf
    ·have:=F.fz_lt g hf;omega
    ·exact e1 hf.1
    ·exact e1 (L.ro_fz g hf)
   ·obtain⟨e1,e2⟩:=J k r h' g E;rcases hf with hf|hf|hf
    ·exact F.free k r h' g e1 hf
    ·omega
    ·rcases hg.newro g hf with Z|Z
     ·exact F.free k r h' g e1 (F.ro_fz g Z)
     ·exact Z e2
  ·intro k k' r r' u am an g E ae;rcases mU k r u with h1|⟨h1,_⟩
   ·rcases mU k' r' am with Z|⟨Z,_⟩
    ·exact L.disj k k' r r' h1 Z an g E ae
    ·have:=(M k r h1 g E).2;have:=(J k' r' Z g ae).2;omega
   ·rcases mU k' r' am with Z|⟨Z,_⟩
    ·have:=(J k r h1 g E).2;have:=(M k' r' Z g ae).2;omega
    ·exact F.disj k k' r r' h1 Z an g (J k r h1 g E).1 (J k' r' Z g ae).1
 refine⟨v,x,ab,S'',he,av,hM.drop au,gY aa (eG.refl S' w') _ _ hv,⟨af,fun _ h=>.inl h,hg.os,hg.tape,hg.output,hg.size,fun k u=>O k (F.fz_lt k u),fun k u=>(hg.newro k u).imp id (fun Z h3=>Z (F.fz_lt k h3))⟩,?_⟩
 ·intro k u h0;exact aq k h0 (hn k u rfl)
def PC.use{r:AV}(h:PC P f args r)(E:K r H):aI P f args H K:=
 RC.frame h fun x H' F J=>⟨H,F▸E,fun k row u=>by
  unfold merge;cases L:H' k with
  | none=>exact u
  | some r'=>rw[J k r' L]at u;simp at u,fun _ h _=>h⟩
def yP.val{r:AV}(h:yP P f args H r):∃v,fv r=some v:=by obtain⟨_,_,_,u⟩:=h;exact Option.isSome_iff_exists.1 u
def yP.calls{r:AV}(h:yP P f args H r){v:Value}(hv:fv r=some v){S:Sg}{w:World}{vals:List Value}(M:St S w H)(ha:aR S w args vals):
  (∀S2 w2,rep S2 w2 r v)/\Calls P f vals.toArray w fun e w'=>e=.returned v/\w'.os=w.os/\w'.tape=w.tape/\w'.output=w.output/\w.heap.size<=w'.heap.size/\∀k,k<w.heap.size->w'.heap[k]?=w.heap[k]?:=by
 obtain⟨args',hc,hp,hf⟩:=h
 let S0:Sg:={ S.froze H with fz:=fun k=>k<w.heap.size }
 have J:(S.froze H).le S0:=⟨fun _ h=>h,Nat.le_refl _,fun _ _=>rfl,fun _ _=>rfl⟩;have O:St S0 w bJ:=⟨fun k E=>by
  rcases E with E|⟨j,r,hj,L⟩
  ·exact M.fz_lt k (M.ro_fz k E)
  ·exact(M.rows j r hj).block_lt L,fun _ h=>h,fun k r E=>by simp[bJ]at E,fun k r E=>by simp[bJ]at E,fun k k' r r' E=>by simp[bJ]at E,(M.tabs.keep (S.le_froze H) (eG.refl S w)).keep J (eG.refl _ w)⟩
 have u:=hp S0 w vals O (fun _ h=>h) (cP J (eG.refl _ w) _ _ (hc.rep M ha));refine⟨fun S2 w2=>?_,u.mono fun e w' ⟨v',x,H',S',he,hx,Z,F,L,hn⟩=>?_⟩
 ·obtain⟨e,w',fr,⟨v',x,H',S',he,hx,Z,F,_⟩,_⟩:=u [];subst hx;have:=Ky hv F;subst this;exact OL hv F
 ·subst hx;have:=Ky hv F;subst this;exact⟨he,L.os,L.tape,L.output,L.size,L.same⟩
def St.after{S:Sg}{w w':World}(u:St S w H)(J:w.heap.size<=w'.heap.size)(F:∀k,k<w.heap.size->w'.heap[k]?=w.heap[k]?):St S w' H:=
 ⟨u.ro_fz,fun k h=>Nat.lt_of_lt_of_le (u.fz_lt k h) J,fun k r h=>(u.rows k r h).keep S.le_refl (fun j E=>F j (u.fz_lt j (u.ro_fz j E))) fun g L=>F g ((u.rows k r h).block_lt L),u.free,u.disj,u.tabs.keep S.le_refl (fun j E=>F j (u.fz_lt j (u.ro_fz j E)))⟩
def St.grow{S:Sg}{w w':World}(M:St S w H)(J:w'.os=w.os)(u:w'.tape=w.tape)(E:w'.output=w.output)(F:w.heap.size<=w'.heap.size)(L:∀k,k<w.heap.size->w'.heap[k]?=w.heap[k]?):Grow S w S w':=
 ⟨S.le_refl,fun _ h=>h,J,u,E,F,fun k h=>L k (M.fz_lt k h),fun _ h=>.inl h⟩
def yP.use{r:AV}(h:yP P f args H r)(M:K r H):aI P f args H K:=by
 intro S w vals u Z;obtain⟨v,E⟩:=h.val;obtain⟨hv,hc⟩:=h.calls E u Z;refine hc.mono fun e w' ⟨O,ho,ht,L,J,F⟩=>⟨v,r,H,S,O,M,u.after J F,?_,u.grow ho ht L J F,dK.refl _ _⟩
 exact hv S w'
end
end Go.Aw
end
