import Derived.MapKept
import Derived.Lib.ItoaMem
import Derived.Lib.TrailingZeros
import Derived.ArgAppend
import Derived.Deep.LoopGhost
import Derived.Test.YtpagaknmdfgfkaaGreatDoorPb01
set_option linter.unusedSimpArgs false
set_option linter.unusedVariables false
set_option linter.defProp false
set_option maxRecDepth 100000
section
namespace Go.Aw
open Go.RowKit
section
variable{P:Program}{S:Sg}{H:aH}{w:World}{G:Option Bool}{K:AV->Prop}
def kG{n:Nat}:∀{l:List (List AV)},dL n l↔∀cs∈l,cs.length=n
 | []=>by simp[dL]
 | x::r=>by simp[dL,kG (l:=r)]
def Al{α:Type}{n:Nat}{f:α->List AV}(h:∀x,(f x).length=n)(l:List α):dL n (l.map f):=kG.2 fun cs E=>by obtain⟨x,_,rfl⟩:=List.mem_map.1 E;exact h x
def abX{b:Bool}{u:Value}(h:rep S w (.v (.bool b)) u):u=.bool b:=by simpa only[rep]using h
def xF{c:Bool}{x y:AV}{u v:Value}(E:c=true->rep S w x u)(F:c=false->rep S w y v):rep S w (wU c x y) (if c then u else v):=by
 unfold wU;split
 ·cases c
  ·have:=F rfl;simp only[rep]at this |-;subst this;simp
  ·have:=E rfl;simp only[rep]at this |-;subst this;simp
 ·cases c
  ·have:=F rfl;simp only[rep]at this |-;subst this;simp
  ·have:=E rfl;simp only[rep]at this |-;subst this;simp
 ·cases c
  ·have:=F rfl;simp only[rep]at this |-;subst this;simp
  ·have:=E rfl;simp only[rep]at this |-;subst this;simp
 ·cases c
  ·simpa using F rfl
  ·simpa using E rfl
def Qn{c:Bool}{x y:AV}(h:CX G c x y K):
  ∃z,K z/\(gt G->∀u v,rep S w x u->rep S w y v->rep S w z (if c then u else v)):=by
 unfold CX at h;split at h
 ·refine⟨_,h.2.2,fun J u v E F=>xF (fun I=>?_) (fun I=>?_)⟩
  ·simp only[rep]at E;exact E.1 (h.1 J I)
  ·simp only[rep]at F;exact F.1 (h.2.1 J I)
 ·refine⟨_,h.2,fun J u v E F=>xF (fun I=>?_) (fun _=>F)⟩;simp only[rep]at E;exact E.1 (h.1 J I)
 ·refine⟨_,h.2,fun J u v E F=>xF (fun _=>E) (fun I=>?_)⟩;simp only[rep]at F;exact F.1 (h.1 J I)
 ·exact⟨_,h,fun _ u v E F=>xF (fun _=>E) (fun _=>F)⟩
def KS{v:Value}(h:v.oneCell'=true):v.cells=#[v]:=by cases v <;> first|rfl|simp[Value.oneCell']at h
def Am{x:AV}{K:List AV->Prop}(h:oZ x K):∃cs,K cs/\∀u,rep S w x u->∃l:List Value,u.cells=l.toArray/\bN S w cs l/\(∀v∈l,v.oneCell'=true):=by
 have F:∀(x:AV) (u:Value),rep S w x u->u.oneCell'=true->∃l:List Value,u.cells=l.toArray/\bN S w [x] l/\(∀v∈l,v.oneCell'=true):=fun x u E h1=>⟨[u],KS h1,by simp only[bN];exact⟨u,[],rfl,E,rfl⟩,by simpa using h1⟩
 unfold oZ at h;split at h
 ·refine⟨_,h,fun u E=>?_⟩;simp only[rep]at E;obtain⟨l,rfl,h1,I⟩:=E;exact⟨l,rfl,h1,I⟩
 ·refine⟨_,h.2,fun u E=>F _ u E ?_⟩;simp only[rep]at E;subst E;exact h.1
 ·refine⟨_,h,fun u E=>F _ u E ?_⟩;simp only[rep]at E;obtain⟨_,_,_,rfl,_⟩:=E;rfl
 ·refine⟨_,h,fun u E=>F _ u E ?_⟩;simp only[rep]at E;obtain⟨_,_,rfl,_⟩:=E;rfl
 ·refine⟨_,h,fun u E=>F _ u E ?_⟩;simp only[rep]at E;obtain⟨_,_,_,_,_,rfl⟩:=E;rfl
 ·refine⟨_,h,fun u E=>F _ u E ?_⟩;simp only[rep]at E;obtain⟨_,_,_,_,_,rfl⟩:=E;rfl
 ·exact h.elim
def Fi(v:Value):rep S w (tI v) v:=by
 unfold tI;split
 ·unfold rep;exact⟨none,0,0,rfl,rfl,Nat.le_refl _,Nat.zero_le _,.inl rfl⟩
 ·exact nD
def oL:∀(l:List Value),bN S w (l.map tI) l
 | []=>by simp[bN]
 | v::r=>by simp only[List.map_cons,bN];exact⟨v,r,rfl,Fi v,oL r⟩
def FP:∀(l:List Value) (i:Nat) (A:Array Value) (o:Nat),o+i+l.length<=A.size ->
  ((l.zipIdx i).foldl (fun cs (p:Value×Nat)=>cs.setIfInBounds (o+p.2) p.1) A).toList=A.toList.take (o+i)++l++A.toList.drop (o+i+l.length)
 | [],i,A,o,h=>by simp
 | v::r,i,A,o,h=>by
  simp only[List.zipIdx_cons,List.foldl_cons,List.length_cons]at h |-;rw[FP r (i+1) _ o (by simp;omega)];have I:(A.setIfInBounds (o+i) v).toList=A.toList.set (o+i) v:=by simp
  rw[I,show o+(i+1)=o+i+1 by omega,List.take_set,List.drop_set_of_lt (by omega)];have E:o+i<A.toList.length:=by simp;omega
  have F:(List.take (o+i+1) A.toList).set (o+i) v=List.take (o+i) A.toList++[v]:=by
   rw[List.take_succ_eq_append_getElem E,List.set_append_right _ _ (by simp;omega)];have:(List.take (o+i) A.toList).length=o+i:=by rw[List.length_take];omega
   rw[this,Nat.sub_self];rfl
  rw[F];simp only[List.append_assoc,List.cons_append,List.nil_append];rw[show o+i+1+r.length=o+i+(r.length+1)by omega]
def Bj{places:List (Nat×Nat)}{place:Nat->Option (Nat×Nat)}(V:∀i Z,places[i]?=some Z->place i=some Z):∀(E:List (Nat×List AV)) (vs:List (Nat×Value)) (cs:List AV) (A:Array Value) (cs':List AV),
  uF places cs E=some cs'->bN S w cs A.toList->(∀v∈A.toList,v.oneCell'=true) ->
  E.length=vs.length->(∀(j i:Nat) (c:List AV),E[j]?=some (i,c)->∃(v:Value) (l:List Value),vs[j]?=some (i,v)/\v.cells=List.toArray l/\bN S w c l/\∀u∈l,u.oneCell'=true) ->
  ∃Y,Instr.fill place A vs=some Y/\bN S w cs' Y.toList/\(∀v∈Y.toList,v.oneCell'=true)
 | [],vs,cs,A,cs',F,hr,h1,hl,_=>by simp only[uF]at F;injection F with F;subst F;have:vs=[]:=List.eq_nil_of_length_eq_zero (by simpa using hl.symm);subst this;exact⟨A,rfl,hr,h1⟩
 | (i,c)::rest,vs,cs,A,cs',F,hr,h1,hl,hv=>by
  obtain⟨v,l,e1,e2,e3,e4⟩:=hv 0 i c (by simp);cases vs with
  | nil=>simp at e1
  | cons q vs=>
   simp at e1;subst e1;simp only[uF]at F;cases hp:places[i]? with
   | none=>simp[hp]at F
   | some Z=>
    obtain⟨off,n⟩:=Z;simp only[hp]at F;split at F
    ·rename_i hc;have O:l.length=n:=by rw[<-hc.1];exact iV _ _ e3
     have hA:A.toList.length=cs.length:=iV _ _ hr;have U:A.size=cs.length:=by simpa using hA
     have hz:=FP l 0 A off (by rw[O,U];have:=hc.2;omega);simp only[Nat.add_zero]at hz;have J:bN S w (cs.take off++c++cs.drop (off+n)) (A.toList.take off++l++A.toList.drop (off+l.length)):=by rw[O];exact eG _ _ _ _ (eG _ _ _ _ (uZ _ _ _ hr) e3) (zM _ _ _ hr)
     have X:∀u∈A.toList.take off++l++A.toList.drop (off+l.length),u.oneCell'=true:=by
      intro u I;simp only[List.mem_append]at I;rcases I with(I|I)|I
      ·exact h1 u (List.mem_of_mem_take I)
      ·exact e4 u I
      ·exact h1 u (List.mem_of_mem_drop I)
     rw[<-hz]at J X;obtain⟨Y,f1,f2,f3⟩:=Bj V rest vs _ _ cs' F J X (by simpa using hl) (fun j i c hj=>by simpa using hv (j+1) i c (by simpa using hj));refine⟨Y,?_,f2,f3⟩;simp only[Instr.fill,V i _ hp,e2,List.size_toArray,O];rw[if_neg (by have:=hc.2;simp[U];omega)];rw[<-f1]
     congr 1
     rw[<-Array.foldl_toList];simp
    ·simp at F
def pS{t:TypeId}{z:List AV}(h:eI P t=some z):∃i v,P.info? t=some i/\i.zero=some v/\z=v.cells.toList.map tI/\v.cells.size=i.size/\i.size≠0/\(∀u∈v.cells.toList,u.oneCell'=true):=by
 unfold eI at h;cases hi:P.info? t with
 | none=>simp[hi]at h
 | some i=>
  cases F:i.zero with
  | none=>simp[hi,F]at h
  | some v=>
   simp only[hi,F]at h;split at h
   ·rename_i E;injection h with h;exact⟨i,v,rfl,F,h.symm,E.1,E.2.1,fun u I=>List.all_eq_true.1 E.2.2 u I⟩
   ·simp at h
def bB{x:AV}{k:AV->Prop}(h:cD G x k):∃y,k y/\(gt G->∀u,rep S w x u->rep S w y u):=by
 unfold cD at h;split at h
 ·refine⟨_,h.2,fun F u E=>?_⟩;simp only[rep]at E;refine E.1 ?_;have:=h.1;cases G with
  | none=>exact this
  | some b=>exact this F
 ·exact⟨_,h,fun _ u E=>E⟩
def Zi{op:UnOp}{x:AV}(h:aun op x K):∃z,K z/\∀u,rep S w x u->As P S H w z (Op.unary op u):=by
 unfold aun at h;split at h
 ·refine⟨_,h,fun u E=>?_⟩;simp only[rep]at E;subst E;exact jA nD fun w'=>by simp[Op.unary]
 ·refine⟨_,h,fun u E=>?_⟩;simp only[rep]at E;subst E;exact jA nD fun w'=>by simp[Op.unary,Op.intArith]
 ·exact h.elim
def MH{t:TypeId}{k:IntKind}(h:I1 P t=some k):P.underlying t=some (.int k):=by
 unfold I1 at h;split at h
 ·rename_i E;injection h with h;subst h;exact E
 ·simp at h
def Qw{t:TypeId}(h:FZ P t=true):∃e,P.underlying t=some (.slice e)/\P.underlying e=some (.int .u8):=by
 unfold FZ at h;split at h
 ·rename_i e F;split at h
  ·rename_i E;exact⟨e,F,E⟩
  ·simp at h
 ·simp at h
def Jd:∀(es:List (List AV)) (ns:List Int) (o:Nat) {b sz:Nat},tX es=some ns->jE S w b sz o es->0<sz->ns.length=es.length/\∀j n,ns[j]?=some n->w.cell? ⟨b,o+j,none⟩=some (.int .u8 n)
 | [],ns,o,b,sz,h,_,_=>by simp only[tX]at h;injection h with h;subst h;simp
 | es::r,ns,o,b,sz,h,he,hs=>by
  unfold tX at h;split at h
  ·rename_i e;simp at e
  ·rename_i n r' e;injection e with U X;subst U X;cases F:tX r with
   | none=>simp[F]at h
   | some ns'=>
    simp[F]at h;subst h;simp only[jE,dP]at he;obtain⟨h1,⟨⟨u,V,_,J⟩,_⟩,Z⟩:=he;simp only[rep]at J;subst J;have I:sz=1:=by simpa using h1.symm
    subst I;obtain⟨Y,O⟩:=Jd r ns' (o+1) F Z hs;refine⟨by simp[Y],fun j m E=>?_⟩;cases j with
    | zero=>simp at E;subst E;simpa using V
    | succ j=>rw[show o+(j+1)=o+1+j by omega];exact O j m (by simpa using E)
  ·simp at h
def SD{src dst:TypeId}{x:AV}(h:A4 P src dst x K):∃z,K z/\∀u,rep S w x u->As P S H w z (convert src dst u):=by
 unfold A4 at h;split at h
 ·split at h
  ·rename_i k k' hk Y;refine⟨_,h,fun u I=>?_⟩;simp only[rep]at I;subst I;refine jA nD fun w'=>?_
   simp[convert,run_underlying (MH hk),run_underlying (MH Y),Conv.intToInt]
  ·exact h.elim
 ·split at h
  ·rename_i O;refine⟨_,h,fun u I=>?_⟩;simp only[rep]at I;subst I;refine jA nD fun w'=>?_
   simp[convert,run_underlying (hY O.1),run_underlying (hY O.2)]
  ·exact h.elim
 ·rename_i es;split at h
  ·rename_i O;split at h
   ·rename_i ns J;refine⟨_,h,fun u I=>?_⟩;obtain⟨e,he,V⟩:=Qw O.1;have hd:=hY O.2;simp only[rep]at I;obtain⟨ad,n,c,rfl,h1,_,_,E⟩:=I;refine⟨_,nD,fun w' ha=>?_⟩;have empty:es=[]->ns=[]:=fun e=>by subst e;simp[tX]at J;exact J
    cases ad with
    | none=>
     have:es=[]:=by rcases E with E|⟨b,o,sz,E,_⟩;exact E;simp at E
     rw[run_convert_bytes_nil w' src e he V n c dst hd,empty this];rfl
    | some a=>
     have F:(loadCells a n).run P w'=.ok (ns.map (Value.int .u8)).toArray w':=by
      rcases E with E|⟨b,o,sz,E,hb,X,U⟩
      ·have Z:n=0:=by rw[<-h1,E];rfl
       rw[Z,empty E];simp[loadCells,loadCellsFrom]
      ·injection E with E;subst E;obtain⟨i1,i2⟩:=Jd es ns o J U X;have Z:n=(ns.map (Value.int .u8)).length:=by rw[List.length_map,i1,h1]
       rw[Z];refine run_loadCells_list w' _ _ fun j v hj=>?_
       rw[Addr.add_lit];simp at hj;obtain⟨m,hm,rfl⟩:=hj;exact ha.cell hb (i2 j m hm)
     rw[run_convert_bytes_string w' src dst e _ n c he V hd,run_bytesToString w' a n c ns F,foldl_push_bytes]
     congr 3
     simp[ByteArray.empty,ByteArray.emptyWithCapacity];rfl
   ·exact h.elim
  ·exact h.elim
 ·exact h.elim
def JT{t:TypeId}{e sz E:Nat}(J:cM P t=some (e,sz,E)):P.underlying t=some (.slice (P.elem t))/\∀w:World,(sizeOf (P.elem t)).run P w=.ok sz w:=by
 obtain⟨i,z,I,hi,F,_⟩:=kE J;have:P.elem t=e:=by unfold Program.elem;rw[I]
 rw[this];exact⟨I,fun w=>by simp[sizeOf,typeInfo,hi,F]⟩
def GP{t:TypeId}{x a b:AV}(h:Gn P G t x a b K):
  ∃z,K z/\(gt G->∀(u I E:Value),rep S w x u->rep S w a I->rep S w b E->As P S H w z (Instr.sliceAt t u none (some I) (some E))):=by
 unfold Gn at h;split at h
 ·rename_i es ka a kb b;split at h
  ·rename_i e Z;refine⟨_,h.2,fun hg u I E J h1 O=>?_⟩;obtain⟨Y,e2⟩:=h.1 hg;simp only[rep]at J h1 O;subst h1 O Y e2;obtain⟨V,n,c,rfl,rfl,hc,hm,X⟩:=J;obtain⟨F,U⟩:=JT (P:=P) (t:=t) (by rw[Z]);refine⟨.slice V es.length es.length,?_,fun w' _=>?_⟩
   ·simp only[rep];exact⟨V,_,rfl,rfl,by omega,X⟩
   ·rw[run_sliceAt_slice w' t _ _ _ _ F];have ab:(es.length:Int)<=(c:Int):=by exact_mod_cast hc
    rcases X with rfl|⟨bb,o,sz,rfl,_⟩
    ·simp[Instr.slice,run_underlying F,Instr.sliceBounds,Instr.sliceBound,asIntOf,U]
    ·simp[Instr.slice,run_underlying F,Instr.sliceBounds,Instr.sliceBound,asIntOf,U,Addr.add];intro aa;omega
  ·exact h.elim
 ·exact h.elim
def JV{es:List (List AV)}{ad:Option Addr}{n c sz a b:Nat}(hu:rep S w (.sl es) (.slice ad n c))(J:dL sz es)(ac:a<=b)(hb:b<=es.length):
  rep S w (.sl ((es.take b).drop a)) (sliced ad a b c sz):=by
 simp only[rep]at hu |-;obtain⟨aa,n',c',e,h1,h2,h3,Z⟩:=hu;injection e with U V e3;subst U V e3;refine⟨_,_,_,rfl,by simp;omega,by omega,by omega,?_⟩;by_cases E:(es.take b).drop a=[]
 ·exact .inl E
 ·refine .inr ?_;rcases Z with Z|⟨bl,o,I,rfl,O,hs,F⟩
  ·subst Z;simp at E
  ·have Y : 0 < es.length := by
    rcases Nat.eq_zero_or_pos es.length with h0|h0
    ·have:=List.eq_nil_of_length_eq_zero h0;subst this;simp at E
    ·exact h0
   have X:I=sz:=by have U:=(vD es o 0 F Y).1;have V:=kG.1 J (es.getD 0 []) (by simp only[List.getD,List.getElem?_eq_getElem Y,Option.getD_some];exact List.getElem_mem Y);rw[<-U,V]
   subst X;have ab:a<b:=by
    rcases Nat.lt_or_ge a b with h|h
    ·exact h
    ·exact absurd (List.drop_eq_nil_of_le (by simp;omega)) E
   refine⟨bl,o+a*I,I,?_,O,hs,?_⟩
   ·split
    ·omega
    ·simp[Addr.add_lit]
   ·exact Dl _ o a (Ao es o b F)
def Oj{t:TypeId}{x:AV}{lo hi:Option AV}(h:pD P G t x lo hi K):
  ∃z,K z/\(gt G->∀(u:Value) (Y Z:Option Value),rep S w x u->(∀y,lo=some y->∃v,Y=some v/\rep S w y v)->(lo=none->Y=none)->(∀y,hi=some y->∃v,Z=some v/\rep S w y v)->(hi=none->Z=none) ->
   As P S H w z (Instr.sliceAt t u Y Z none)):=by
 unfold pD at h;split at h
 ·rename_i es ka a kb b;split at h
  ·rename_i e sz aa he;refine⟨_,h.2,fun X u Y Z E O _ J _=>?_⟩;obtain⟨⟨h0,h1,h2⟩,h3⟩:=h.1 X;obtain⟨v,rfl,I⟩:=O _ rfl;obtain⟨v',rfl,V⟩:=J _ rfl;simp only[rep]at I V;subst I V;have U:=E;simp only[rep]at U;obtain⟨ad,n,c,rfl,e1,e2,_⟩:=U;obtain⟨F,hz⟩:=JT he;have:=JV (a:=a.toNat) (b:=b.toNat) E h3 (by omega) (by omega);refine⟨_,this,fun w' _=>?_⟩;rw[run_sliceAt_slice w' t _ _ _ _ F,run_slice_lh w' t ad n c F ka kb a b h0 h1 (by omega),hz];rfl
  ·exact h.elim
 ·rename_i es ka a;split at h
  ·rename_i e sz aa he;refine⟨_,h.2,fun X u Y Z E O _ _ J=>?_⟩;obtain⟨⟨h0,h1⟩,h3⟩:=h.1 X;obtain⟨v,rfl,I⟩:=O _ rfl;have:=J rfl;subst this;simp only[rep]at I;subst I;have U:=E;simp only[rep]at U;obtain⟨ad,n,c,rfl,e1,e2,_⟩:=U;obtain⟨F,hz⟩:=JT he;have:=JV (a:=a.toNat) (b:=es.length) E h3 (by omega) (by omega);rw[List.take_length,e1]at this;refine⟨_,this,fun w' _=>?_⟩;rw[run_sliceAt_slice w' t _ _ _ _ F,run_slice_l w' t ad n c F ka a h0 (by omega),hz];rfl
  ·exact h.elim
 ·rename_i es kb b;split at h
  ·rename_i e he;refine⟨_,h.2,fun X u Y Z E _ O J _=>?_⟩;obtain⟨h0,h1⟩:=h.1 X;obtain⟨v,rfl,I⟩:=J _ rfl;have:=O rfl;subst this;simp only[rep]at I;subst I;obtain⟨F,hz⟩:=JT he;simp only[rep]at E;obtain⟨ad,n,c,rfl,e1,e2,e3,e4⟩:=E;refine⟨sliced ad 0 b.toNat c e.2.1,?_,fun w' _=>?_⟩
   ·simp only[rep];refine⟨ad,b.toNat,c,?_,by simp;omega,by omega,e3,?_⟩
    ·simp only[sliced,Nat.sub_zero]
     congr 1
     split
     ·rfl
     ·cases ad <;> simp[Addr.add_zero']
    ·rcases e4 with e4|⟨bl,o,af,rfl,ae,ac,ab⟩
     ·left;rw[e4];simp
     ·exact .inr ⟨bl,o,af,rfl,ae,ac,Ao es o _ ab⟩
   ·rw[run_sliceAt_slice w' t _ _ _ _ F,run_slice_h w' t ad n c F kb b h0 (by omega),hz];rfl
  ·exact h.elim
 ·rename_i s ka a kb b;split at h
  ·rename_i F;refine⟨_,h.2,fun X u Y Z E O _ J _=>?_⟩;obtain⟨h0,h1,h2⟩:=h.1 X;obtain⟨v,rfl,I⟩:=O _ rfl;obtain⟨v',rfl,V⟩:=J _ rfl;simp only[rep]at E I V;subst E I V;refine jA nD fun w'=>?_
   rw[run_sliceAt_string w' t _ _ _ _ (hY F),run_slice_string w' t s ka kb a b (hY F) h0 h1 h2]
  ·exact h.elim
 ·rename_i s ka a;split at h
  ·rename_i F;refine⟨_,h.2,fun X u Y Z E O _ _ J=>?_⟩;obtain⟨h0,h1⟩:=h.1 X;obtain⟨v,rfl,I⟩:=O _ rfl;have:=J rfl;subst this;simp only[rep]at E I;subst E I;refine jA nD fun w'=>?_
   rw[run_sliceAt_string w' t _ _ _ _ (hY F),run_slice_string_l w' t s (hY F) ka a h0 h1]
  ·exact h.elim
 ·rename_i s kb b;split at h
  ·rename_i F;refine⟨_,h.2,fun X u Y Z E _ O J _=>?_⟩;obtain⟨h0,h1⟩:=h.1 X;obtain⟨v,rfl,I⟩:=J _ rfl;have:=O rfl;subst this;simp only[rep]at E I;subst E I;refine jA nD fun w'=>?_
   rw[run_sliceAt_string w' t _ _ _ _ (hY F),run_slice_string_h w' t s (hY F) kb b h0 h1]
  ·exact h.elim
 ·exact h.elim
def UV{k:Nat}{r:Row}(hH:BY S w H)(Z:H k=some r){a b c:Nat}{I:Option Addr}{n:Nat}(U:S.loc k=.slice I n c)(X:a<=b)(hb:b<=r.es.length):n=r.es.length/\n<=c/\rep S w (.oz k a b) (sliced I a b c r.sz):=by
 have Y:=hH k r Z;obtain⟨xs,ho,_,_⟩:=Y.sl U;have E:(I=none/\n=0/\c=0/\r.es.length=0)\/∃g,I=some ⟨g,0,none⟩/\n=r.es.length/\n<=c:=by
  rcases ho.2 with⟨J,V⟩|⟨g,cap,cur,J,_,_,ab,_⟩
  ·rw[U]at J;injection J with h1 F O;exact .inl ⟨h1,F,O,V⟩
  ·rw[U]at J;injection J with h1 F O;subst O;exact .inr ⟨g,h1,F,by omega⟩
 have V:n=r.es.length/\n<=c:=by rcases E with⟨_,h1,F,O⟩|⟨g,_,h1,F⟩ <;> omega
 refine⟨V.1,V.2,?_⟩;simp only[rep,sliced];refine⟨Y.lt,I,n,c,_,_,U,rfl,X,by omega,fun aa=>?_,fun ha=>?_⟩
 ·rcases E with⟨_,h1,F,O⟩|⟨g,h0,h1,F⟩
  ·omega
  ·subst h0;refine⟨g,rfl,?_⟩;rw[if_neg (by omega)];simp[Addr.add_lit,Y.sz]
 ·subst ha;rcases E with⟨h0,_,_,_⟩|⟨g,h0,_,_⟩
  ·subst h0;simp
  ·subst h0;simp[Addr.add_lit]
def vA{H':aH}{t:TypeId}{x:AV}{lo hi:Option AV}(hH:BY S w H)(h:asl P G H t x lo hi K):
  ∃z,K z/\(gt G->∀(u:Value) (J U:Option Value),rep S w x u->(∀y,lo=some y->∃v,J=some v/\rep S w y v)->(lo=none->J=none)->(∀y,hi=some y->∃v,U=some v/\rep S w y v)->(hi=none->U=none) ->
   As P S H' w z (Instr.sliceAt t u J U none)):=by
 unfold asl at h;split at h
 ·rename_i k;split at h
  ·rename_i r e sz aa hk he;obtain⟨O,hz⟩:=JT he;split at h
   ·rename_i ka a kb b;refine⟨_,h.2,fun hg u J U F X _ V _=>?_⟩;obtain⟨⟨h0,h1,h2⟩,h3⟩:=h.1 hg;obtain⟨v,rfl,I⟩:=X _ rfl;obtain⟨v',rfl,Y⟩:=V _ rfl;simp only[rep]at I Y F;subst I Y;obtain⟨_,rfl,ad,n,c,E⟩:=F;obtain⟨q1,q2,Z⟩:=UV (a:=a.toNat) (b:=b.toNat) hH hk E (by omega) (by omega);rw[E];refine⟨_,Z,fun w' _=>?_⟩;rw[run_sliceAt_slice w' t _ _ _ _ O,run_slice_lh w' t ad n c O ka kb a b h0 h1 (by omega),hz,h3];rfl
   ·rename_i ka a;refine⟨_,h.2,fun hg u J U F X _ _ V=>?_⟩;obtain⟨⟨h0,h1⟩,h3⟩:=h.1 hg;obtain⟨v,rfl,I⟩:=X _ rfl;have:=V rfl;subst this;simp only[rep]at I F;subst I;obtain⟨_,rfl,ad,n,c,E⟩:=F;obtain⟨q1,q2,Z⟩:=UV (a:=a.toNat) (b:=r.es.length) hH hk E (by omega) (by omega);rw[E];refine⟨_,Z,fun w' _=>?_⟩;rw[run_sliceAt_slice w' t _ _ _ _ O,run_slice_l w' t ad n c O ka a h0 (by omega),hz,h3,q1];rfl
   ·rename_i kb b;refine⟨_,h.2,fun hg u J U F _ X V _=>?_⟩;obtain⟨⟨h0,h1⟩,h3⟩:=h.1 hg;obtain⟨v,rfl,I⟩:=V _ rfl;have:=X rfl;subst this;simp only[rep]at I F;subst I;obtain⟨_,rfl,ad,n,c,E⟩:=F;obtain⟨q1,q2,Z⟩:=UV (a:=0) (b:=b.toNat) hH hk E (by omega) (by omega);rw[E];refine⟨_,Z,fun w' _=>?_⟩;rw[run_sliceAt_slice w' t _ _ _ _ O,run_slice_h w' t ad n c O kb b h0 (by omega),hz,h3];rfl
   ·exact h.elim
  ·exact h.elim
 ·exact Oj h
def OA{t:TypeId}{x i:AV}(h:At P G t x i K):
  ∃z,K z/\(gt G->∀u v,rep S w x u->rep S w i v->As P S H w z (Instr.index t u v)):=by
 unfold At at h;split at h
 ·rename_i s k n;split at h
  ·rename_i hs;refine⟨_,h.2,fun J u v I F=>?_⟩;obtain⟨h0,h1⟩:=h.1 J;simp only[rep]at I F;subst I F;refine jA nD fun w'=>?_
   rw[run_index_string w' t s k n (hY hs),dif_pos ⟨h0,h1⟩];have U:n.toNat<s.data.size:=by have:s.size=s.data.size:=rfl;omega
   congr 4
   rw[Array.getD,dif_pos U];rfl
  ·exact h.elim
 ·rename_i cs k n;split at h
  ·rename_i m s l ha;obtain⟨e,Y,I,hi,rfl,_,hl⟩:=Mi ha;obtain⟨z,hz,X⟩:=GV (S:=S) (H:=H) (w:=w) hl h.2;refine⟨z,hz,fun J u v O F=>?_⟩;obtain⟨h0,h1⟩:=h.1 J;obtain⟨cs',rfl,V⟩:=X J u O;simp only[rep]at F;subst F;obtain⟨r,hr,E⟩:=V;refine⟨r,hr,fun w' Z=>?_⟩;have:=E w' Z;simp[Instr.index,asIntOf,run_underlying I,h0,h1,sizeOf,typeInfo,hi];simpa using this
  ·exact h.elim
 ·exact h.elim
def opB(n:Nat):Operand->Bool
 | .tmp t=>decide (t<n)
 | _=>true
def FR(S:Sg)(w:World)(ρ:Env)(a:Act):Prop:=∀t,t<a.tmps.size->rep S w (ρ t) (a.tmps.getD t undef)
def dG{ρ:Env}{a:Act}(F:FR S w ρ a){x:Operand}(E:opB a.tmps.size x=true):rep S w (aev ρ x) (a.eval x):=by
 cases x with
 | tmp t=>simp only[opB,decide_eq_true_eq]at E;exact F t E
 | const v=>exact Fi v
 | global g=>trivial
 | func f=>exact nD
def VM{ρ:Env}{a:Act}(F:FR S w ρ a){x:Operand}(E:opB a.tmps.size x=true):rep S w (OG ρ x) (a.eval x):=by
 cases x with
 | const v=>exact nD
 | tmp t=>exact dG F E
 | global g=>exact dG F E
 | func f=>exact dG F E
def F7{ρ:Env}{a:Act}(E:FR S w ρ a):∀(l:List Operand),(∀x∈l,opB a.tmps.size x=true)->bN S w (l.map (OG ρ)) (l.map a.eval)
 | [],_=>rfl
 | x::l,h=>by simp only[List.map_cons,bN];exact⟨_,_,rfl,VM E (h x (by simp)),F7 E l fun y F=>h y (by simp[F])⟩
def rD{ρ:Env}{a:Act}(O:FR S w ρ a):∀(l:List (Nat×Operand)) {K:List (Nat×List AV)->Prop},(∀p∈l,opB a.tmps.size p.2=true)->sQ G ρ l K ->
  ∃E,K E/\(gt G->E.length=(l.map fun p=>(p.1,a.eval p.2)).length /\
   ∀(j i:Nat) (c:List AV),E[j]?=some (i,c)->∃(v:Value) (l':List Value),(l.map fun p=>(p.1,a.eval p.2))[j]?=some (i,v)/\v.cells=List.toArray l'/\bN S w c l'/\∀u∈l',u.oneCell'=true)
 | [],K,_,h=>⟨[],h,fun _=>⟨rfl,by simp⟩⟩
 | (i,x)::rest,K,hb,h=>by
  simp only[sQ]at h;obtain⟨y,h,hy⟩:=bB (S:=S) (w:=w) h;obtain⟨cs,h,J⟩:=Am (S:=S) (w:=w) h;obtain⟨E,hK,I⟩:=rD O rest (fun p hp=>hb p (by simp[hp])) h;refine⟨_,hK,fun U=>?_⟩;obtain⟨V,X⟩:=I U;refine⟨by simpa using V,fun j k c F=>?_⟩;cases j with
  | zero=>simp at F;obtain⟨rfl,rfl⟩:=F;obtain⟨l',f1,Z,Y⟩:=J _ (hy U _ (dG O (hb (i,x) (by simp))));exact⟨_,l',by simp,f1,Z,Y⟩
  | succ j=>simpa using X j k c (by simpa using F)
def xU{t:TypeId}{i:TypeInfo}{U:Value}{z:List AV}{Z:List (Nat×Nat)}(hi:P.info? t=some i)(O:i.zero=some U)(h1:∀u∈U.cells.toList,u.oneCell'=true)(hr:bN S w z U.cells.toList)(I:fC P t=some Z){E:List (Nat×List AV)}{vs:List (Nat×Value)}{cs:List AV}
  (hf:uF Z z E=some cs) (hl:E.length=vs.length)
  (hv:∀(j i:Nat) (c:List AV),E[j]?=some (i,c)->∃(v:Value) (l:List Value),vs[j]?=some (i,v)/\v.cells=List.toArray l/\bN S w c l/\∀u∈l,u.oneCell'=true):
  ∃J,P.built t vs=some J/\bN S w cs J.toList/\∀v∈J.toList,v.oneCell'=true:=by
 unfold fC at I;split at I
 ·rename_i fs V;obtain⟨J,f1,f2,Y⟩:=Bj (place:=fun i=>Z.toArray[i]?) (fun i on h=>by simpa using h) E vs _ U.cells cs hf hr h1 hl hv;refine⟨J,?_,f2,Y⟩;unfold Program.built;simp only[hi,V,O,I];exact f1
 ·rename_i n e V;cases F:P.info? e with
  | none=>simp[F]at I
  | some ie=>
   simp[F]at I;obtain⟨J,f1,f2,Y⟩:=Bj (place:=fun i=>some (i*ie.size,ie.size)) (fun i on h=>by
    rw[<-I]at h;simp only[List.getElem?_map,Option.map_eq_some_iff]at h;obtain⟨j,h,rfl⟩:=h;have aa:i<n:=by
     rcases Nat.lt_or_ge i n with X|X
     ·exact X
     ·simp[X]at h
    simp[aa]at h;rw[h]) E vs _ U.cells cs hf hr h1 hl hv
   refine⟨J,?_,f2,Y⟩;unfold Program.built;simp only[hi,V,O,F];exact f1
 ·simp at I
def OJ{t:TypeId}{z:List AV}{J:List (Nat×Nat)}(Y:eI P t=some z)(X:fC P t=some J){E:List (Nat×List AV)}{vs:List (Nat×Value)}{cs:List AV}
  (O:uF J z E=some cs) (V:E.length=vs.length)
  (hv:∀(j i:Nat) (c:List AV),E[j]?=some (i,c)->∃(v:Value) (l:List Value),vs[j]?=some (i,v)/\v.cells=List.toArray l/\bN S w c l/\∀u∈l,u.oneCell'=true):
  ∃I,P.built t vs=some I/\bN S w cs I.toList/\∀v∈I.toList,v.oneCell'=true:=by
 obtain⟨i,Z,hi,F,rfl,U,_,h1⟩:=pS Y;exact xU hi F h1 (oL Z.cells.toList) X O V hv
end
end Go.Aw
end
section
namespace Go.Aw
open Go.RowKit
section
variable{P:Program}{S:Sg}{H:aH}{w:World}{G:Option Bool}{K:AV->Prop}
def aaH{a b:ByteArray}(h:a.toList=b.toList):a=b:=by rw[ByteArray.toList_eq,ByteArray.toList_eq]at h;exact ByteArray.ext (Array.toList_inj.1 h)
def Zr{t:TypeId}{E:TypeId×TypeId}(h:UJ P t=some E):P.underlying t=some (.map E.1 E.2):=by
 unfold UJ at h;split at h
 ·rename_i k e F;injection h with h;subst h;exact F
 ·simp at h
def L8{t:TypeId}{z:AV}(h:Ll P t=some z):∃v,(∀w':World,(zeroValue t).run P w'=.ok v w')/\∀S w,rep S w z v:=by
 unfold Ll at h;split at h
 ·rename_i i hi;split at h
  ·rename_i cs F;split at h
   ·rename_i E;injection h with h;subst h;refine⟨.agg cs,fun w'=>by simp[zeroValue,typeInfo,hi,F],fun S w=>?_⟩;simp only[rep];refine⟨cs.toList,by simp,oL _,fun u I=>List.all_eq_true.1 E u I⟩
   ·simp at h
  ·rename_i v _ F;split at h
   ·injection h with h;subst h;exact⟨v,fun w'=>by simp[zeroValue,typeInfo,hi,F],fun S w=>Fi _⟩
   ·simp at h
  ·simp at h
 ·simp at h
def Lh{Z:TypeId}{x y:AV}{b:Bool}(h:tL P Z x y=some b){u v:Value}(Y:rep S w x u)(hv:rep S w y v):
  ∃d,P.underlying Z=some d/\Instr.sameNow d u v=some b/\(b=true->u=v/\∀n,Instr.sameBits (n+1) v u=true):=by
 unfold tL at h;split at h
 ·rename_i a c;simp only[rep]at Y hv;subst Y hv;split at h
  ·rename_i k U;unfold xY at h;split at h
   ·rename_i k1 a1 k2 F I O;cases I;cases O;split at h
    ·rename_i X;subst X;rcases nR U with⟨_,k',E⟩|⟨h0,_⟩|⟨h0,_⟩
     ·injection h with h;subst h;refine⟨_,E,by simp[Instr.sameNow],fun J=>?_⟩;have:a1=F:=by simpa using J
      subst this;exact⟨rfl,fun n=>by simp[Instr.sameBits]⟩
     ·simp at h0
     ·simp at h0
    ·simp at h
   ·rename_i a1 F I O;cases I;cases O;rcases nR U with⟨h0,_⟩|⟨_,E⟩|⟨h0,_⟩
    ·simp at h0
    ·injection h with h;have J:(a1 == F)=b:=by rw[beq_toListBytes];exact h
     refine⟨_,E,by simp[Instr.sameNow,J],fun V=>?_⟩;have:a1=F:=aaH (by rw[V]at h;simpa using h);subst this;exact⟨rfl,fun n=>by simp[Instr.sameBits,beq_toListBytes]⟩
    ·simp at h0
   ·rename_i a1 F I O;cases I;cases O;rcases nR U with⟨h0,_⟩|⟨h0,_⟩|⟨_,E⟩
    ·simp at h0
    ·simp at h0
    ·injection h with h;subst h;refine⟨_,E,by simp[Instr.sameNow],fun J=>?_⟩;have:a1=F:=by simpa using J
     subst this;exact⟨rfl,fun n=>by simp[Instr.sameBits]⟩
   ·simp at h
  ·simp at h
 ·simp at h
def Ni{Z:TypeId}{x:AV}{u:Value}{d:TypeDesc}(U:P.underlying Z=some d)(X:rep S w x u):∀(es:List (List AV)) (ms:List MapEntry) (i:Nat) {oi:Option Nat},mR S w i es ms->wX (tL P Z x) es i=some oi ->
  (oi=none->Instr.findNow d u ms i=some none)/\∀j,oi=some j->∃m cs,i<=j/\ms[j-i]?=some m/\es[j-i]?=some cs/\Instr.findNow d u ms i=some (some (j,m.val))/\m.key=u/\(∀n,Instr.sameBits (n+1) m.key u=true)/\m.born=j/\bN S w cs [m.key,m.val]
 | [],ms,i,oi,he,F=>by simp only[mR]at he;subst he;simp only[wX]at F;injection F with F;subst F;exact⟨fun _=>rfl,fun j h=>by simp at h⟩
 | cs::r,ms,i,oi,he,F=>by
  simp only[mR]at he;obtain⟨m,t,rfl,hb,O,ht⟩:=he;unfold wX at F;have Y:rep S w (cs.getD 0 .any) m.key:=by
   cases cs with
   | nil=>simp[bN]at O
   | cons c cs=>simp only[bN]at O;obtain⟨_,_,e,h1,_⟩:=O;injection e with e1 e2;subst e1;simpa using h1
  split at F
  ·rename_i I;injection F with F;subst F;obtain⟨d',E,h1,V⟩:=Lh I X Y;rw[U]at E;injection E with E;subst E;refine⟨fun h=>by simp at h,fun j J=>?_⟩;injection J with J;subst J;exact⟨m,cs,Nat.le_refl _,by simp,by simp,by simp[Instr.findNow,h1],(V rfl).1.symm,(V rfl).2,hb,O⟩
  ·rename_i I;obtain⟨d',E,h1,V⟩:=Lh I X Y;rw[U]at E;injection E with E;subst E;obtain⟨g1,g2⟩:=Ni U X r t (i+1) ht F;refine⟨fun h=>by simp[Instr.findNow,h1,g1 h],fun j J=>?_⟩;obtain⟨m',cs',q1,q2,q3,q4,q5⟩:=g2 j J;have e:j-i=(j-(i+1))+1:=by omega
   exact⟨m',cs',by omega,by rw[e];simpa using q2,by rw[e];simpa using q3,by simp[Instr.findNow,h1,q4],q5⟩
  ·simp at F
def B4:∀(i:Nat) (es:List (List AV)) (ms:List MapEntry),mR S w i es ms->ms.length=es.length
 | _,[],ms,h=>by simp only[mR]at h;simp[h]
 | i,cs::r,ms,h=>by simp only[mR]at h;obtain⟨m,t,rfl,_,_,E⟩:=h;simp[B4 (i+1) r t E]
def Tb:∀(i:Nat) (es:List (List AV)) (ms:List MapEntry) (j:Nat),mR S w i es ms->j<es.length->∃m,ms[j]?=some m/\m.born=i+j/\bN S w (es.getD j []) [m.key,m.val]
 | _,[],_,_,_,h=>by simp at h
 | i,cs::r,ms,0,h,_=>by simp only[mR]at h;obtain⟨m,t,rfl,h1,F,_⟩:=h;exact⟨m,by simp,by simpa using h1,by simpa using F⟩
 | i,cs::r,ms,j+1,h,hj=>by simp only[mR]at h;obtain⟨m,t,rfl,_,_,J⟩:=h;obtain⟨I,E,O,g3⟩:=Tb (i+1) r t j J (by simpa using hj);exact⟨I,by simpa using E,by omega,by simpa using g3⟩
def Ep:∀(i:Nat) (es:List (List AV)) (ms:List MapEntry) (j:Nat) {cs:List AV} {m:MapEntry},mR S w i es ms->m.born=i+j->bN S w cs [m.key,m.val]->mR S w i (es.set j cs) (ms.set j m)
 | _,[],ms,_,_,_,h,_,_=>by simp only[mR]at h;subst h;simp[mR]
 | i,c::r,ms,0,cs,m,h,hb,hr=>by simp only[mR]at h;obtain⟨F,t,rfl,_,_,E⟩:=h;simp only[List.set_cons_zero,mR];exact⟨m,t,rfl,by simpa using hb,hr,E⟩
 | i,c::r,ms,j+1,cs,m,h,hb,hr=>by simp only[mR]at h;obtain⟨F,t,rfl,h1,I,E⟩:=h;simp only[List.set_cons_succ,mR];exact⟨F,t.set j m,rfl,h1,I,Ep (i+1) r t j E (by omega) hr⟩
def Eh:∀(i:Nat) (es:List (List AV)) (ms:List MapEntry) {cs:List AV} {m:MapEntry},mR S w i es ms->m.born=i+es.length->bN S w cs [m.key,m.val]->mR S w i (es++[cs]) (ms++[m])
 | i,[],ms,cs,m,h,hb,hr=>by simp only[mR]at h;subst h;simp only[List.nil_append,mR];exact⟨m,[],rfl,by simpa using hb,hr,rfl⟩
 | i,c::r,ms,cs,m,h,hb,hr=>by simp only[mR]at h;obtain⟨F,t,rfl,h1,E,I⟩:=h;simp only[List.cons_append,mR];exact⟨F,t++[m],rfl,h1,E,Eh (i+1) r t I (by simp at hb;omega) hr⟩
def B7{E:TypeId}{x:AV}(h:pE P E x=true){u:Value}(F:rep S w x u)(e:Bool)(n:Nat)(w':World):(∃d,P.underlying E=some d)/\(Instr.checkKey e (n+1) E u).run P w'=.ok () w':=by
 unfold pE at h;split at h
 all_goals first|(simp at h;done)|skip
 all_goals
  simp only[beq_iff_eq]at h;simp only[rep]at F;subst F;rcases nR h with⟨h0,k',hk'⟩|⟨h0,hk'⟩|⟨h0,hk'⟩ <;> first
   | (simp at h0;done)
   | exact⟨⟨_,hk'⟩,by unfold Instr.checkKey;simp only[Sem.run_bind,run_underlying hk',Result.andThen];rfl⟩
def Qe{t:TypeId}{E:TypeId×TypeId}{x:AV}{r:Row}{k:Nat}{u:Value}{F:Option Nat}(ht:UJ P t=some E)(O:pE P E.1 x=true)(hf:wX (tL P E.1 x) r.es 0=some F)(hm:afW S w k r)(J:rep S w x u):
  ∃g ms,S.loc k=.map (some g)/\w.heap[g]?=some (.map (List.toArray ms) ms.length)/\mR S w 0 r.es ms/\P.underlying t=some (.map E.1 E.2)/\(∀e (w':World),(Instr.checkKey e 10000 E.1 u).run P w'=.ok () w') /\
   ((F=none/\∀w':World,(Instr.findKey E.1 u ms).run P w'=.ok none w') \/
   ∃j m cs,F=some j/\ms[j]?=some m/\r.es[j]?=some cs/\(∀w':World,(Instr.findKey E.1 u ms).run P w'=.ok (some (j,m.val)) w')/\m.key=u/\(∀n,Instr.sameBits (n+1) m.key u=true)/\m.born=j/\bN S w cs [m.key,m.val]):=by
 obtain⟨g,ms,h1,V,U,_⟩:=hm;obtain⟨⟨d,I⟩,_⟩:=B7 O J true 0 w;refine⟨g,ms,h1,V,U,Zr ht,fun e w'=>(B7 O J e 9999 w').2,?_⟩;obtain⟨f1,f2⟩:=Ni I J r.es ms 0 U hf;cases F with
 | none=>exact .inl ⟨rfl,fun w'=>by simp[Instr.findKey,run_underlying I,f1 rfl]⟩
 | some j=>obtain⟨m,cs,_,q2,q3,X,Z,q6,q7,Y⟩:=f2 j rfl;exact .inr ⟨j,m,cs,rfl,by simpa using q2,by simpa using q3,fun w'=>by simp[Instr.findKey,run_underlying I,X],Z,q6,q7,Y⟩
def IZ{cs:List AV}{a b:Value}(h:bN S w cs [a,b]):∃x y,cs=[x,y]/\rep S w x a/\rep S w y b:=by
 cases cs with
 | nil=>simp[bN]at h
 | cons x cs=>
  simp only[bN]at h;obtain⟨u,t,e,h1,F⟩:=h;injection e with E I;subst E I;cases cs with
  | nil=>simp[bN]at F
  | cons y cs=>
   simp only[bN]at F;obtain⟨u,t,e,O,J⟩:=F;injection e with E I;subst E I;cases cs with
   | nil=>exact⟨x,y,rfl,h1,O⟩
   | cons _ _=>simp[bN]at J
def KF{t:TypeId}{x O:AV}{ok:Bool}(hH:BY S w H)(h:wP P H t x O ok K):
  ∃z,K z/\(gt G->∀u v,rep S w x u->rep S w O v->As P S H w z (Instr.lookup t u v ok)):=by
 unfold wP Gq at h;split at h
 ·rename_i j;split at h
  ·rename_i r kt hj ht;split at h
   ·rename_i oi hf;obtain⟨hp,h⟩:=h;split at h
    ·rename_i z hz;refine⟨_,h,fun _ u v hu hv=>?_⟩;simp only[rep]at hu;obtain⟨_,rfl,g0,Y⟩:=hu;obtain⟨g,ms,h1,h2,h3,X,V,U⟩:=Qe ht hp hf ((hH j r hj).mp Y) hv;obtain⟨Z,J,I⟩:=L8 hz;have E:∀w',Agree S H w w'->w'.heap[g]?=some (.map (List.toArray ms) ms.length):=fun w' F=>(F.own j r hj g (by rw[h1];rfl)).trans h2
     rcases U with⟨rfl,U⟩|⟨i,m,cs,rfl,q1,q2,q3,q4,q5,q6,q7⟩
     ·cases ok with
      | false=>refine⟨Z,I S w,fun w' F=>?_⟩;simp[Instr.lookup,run_underlying X,h1,MapKept.run_getObj_map (E w' F),V,U,J]
      | true=>
       refine⟨.tuple #[Z,.bool false],?_,fun w' F=>?_⟩
       ·simp only[OZ,if_true,rep,bN];exact⟨[Z,.bool false],by simp,_,_,rfl,I S w,_,_,rfl,rfl,rfl⟩
       ·simp[Instr.lookup,run_underlying X,h1,MapKept.run_getObj_map (E w' F),V,U,J]
     ·obtain⟨xk,xv,rfl,r1,r2⟩:=IZ q7;have e1:(r.es.getD i []).getD 1 .any=xv:=by simp[List.getD,q2]
      cases ok with
      | false=>refine⟨m.val,by simp only[OZ,e1];exact r2,fun w' F=>?_⟩;simp[Instr.lookup,run_underlying X,h1,MapKept.run_getObj_map (E w' F),V,q3]
      | true=>
       refine⟨.tuple #[m.val,.bool true],?_,fun w' F=>?_⟩
       ·simp only[OZ,if_true,e1,rep,bN];exact⟨[m.val,.bool true],by simp,_,_,rfl,r2,_,_,rfl,rfl,rfl⟩
       ·simp[Instr.lookup,run_underlying X,h1,MapKept.run_getObj_map (E w' F),V,q3]
    ·exact h.elim
   ·exact h.elim
  ·exact h.elim
 ·exact h.elim
end
end Go.Aw
end
section
namespace Go.Aw
open Go.RowKit
section
variable{P:Program}{S:Sg}{H:aH}{w:World}{G:Option Bool}{K:AV->Prop}
def Cu{s:Sem Value}{v:Value}{w':World}(h:s.run P w'=.ok v w'):(do pure (Next.value (<-s)):Sem Next).run P w'=.ok (.value v) w':=by simp[h]
def oR(P:Program)(S:Sg)(H:aH)(w:World)(a:Act)(op:Op)(z:AV):Prop:=
 ∃v,rep S w z v/\∀w',Agree S H w w'->∀o:Oper,o.op=op->(execOp a.eval o).run P w'=.ok (.value v) w'
def oR.of_does{a:Act}{op:Op}{z:AV}{s:Sem Value}(E:As P S H w z s)(I:∀o:Oper,o.op=op->execOp a.eval o=(do pure (Next.value (<-s)):Sem Next)):oR P S H w a op z:=by obtain⟨v,O,U⟩:=E;exact⟨v,O,fun w' F o J=>by rw[I o J];exact Cu (U w' F)⟩
def qC{G:Option Bool}{ρ:Env}{a:Act}(J:FR S w ρ a):∀(l:List Operand) {K:List AV->Prop},(∀x∈l,opB a.tmps.size x=true)->C0 G ρ l K ->
  ∃F,K F/\(gt G->bN S w F (l.map a.eval))
 | [],K,_,h=>⟨[],h,fun _=>by simp[bN]⟩
 | x::rest,K,hb,h=>by simp only[C0]at h;obtain⟨y,h,V⟩:=bB (S:=S) (w:=w) h;obtain⟨F,U,E⟩:=qC J rest (fun x O=>hb x (by simp[O])) h;refine⟨_,U,fun I=>?_⟩;simp only[List.map_cons,bN];exact⟨_,_,rfl,V I _ (dG J (hb x (by simp))),E I⟩
def GA{ρ:Env}{a:Act}{op:Op}(hb:∀x∈op.operands,opB a.tmps.size x=true)(hF:FR S w ρ a)(hH:BY S w H)(h:jN P G ρ H op K):
  ∃z,K z/\(gt G->oR P S H w a op z):=by
 have ev:=fun x O=>dG hF (hb x O)
 cases op <;> simp only[jN]at h <;> simp only[Op.operands]at ev hb <;> try exact h.elim
 case move x=>obtain⟨z,I,U⟩:=bB (S:=S) (w:=w) h;exact⟨z,I,fun E=>⟨_,U E _ (ev x (by simp)),fun w' _ o F=>by simp[execOp,F]⟩⟩
 case assign x=>obtain⟨z,I,U⟩:=bB (S:=S) (w:=w) h;exact⟨z,I,fun E=>⟨_,U E _ (ev x (by simp)),fun w' _ o F=>by simp[execOp,F]⟩⟩
 case pick c x y=>
  obtain⟨zc,h,hc⟩:=bB (S:=S) (w:=w) h;split at h
  ·rename_i b;obtain⟨z,I,U⟩:=Qn (S:=S) (w:=w) h;refine⟨z,I,fun E=>?_⟩;have e:=abX (hc E _ (ev c (by simp)));refine⟨_,U E _ _ (ev x (by simp)) (ev y (by simp)),fun w' _ o F=>?_⟩;simp[execOp,F,e,asBool]
  ·exact h.elim
 case build t parts=>
  obtain⟨ps,h,aj⟩:=rD hF parts.toList (fun p hp=>hb p.2 (by simpa using⟨p.1,by simpa using hp⟩)) h;unfold AN at h;split at h
  ·rename_i z pl I ah;split at h
   ·rename_i cs al;refine⟨_,h,fun E=>?_⟩;obtain⟨e1,e2⟩:=aj E;obtain⟨A',f1,f2,f3⟩:=OJ (S:=S) (w:=w) I ah al e1 e2;refine⟨.agg A',by simp only[rep];exact⟨A'.toList,by simp,f2,f3⟩,fun w' _ o F=>?_⟩;have:(parts.map fun(p:Nat×Operand)=>(p.1,a.eval p.2)).toList=parts.toList.map fun p=>(p.1,a.eval p.2):=by simp
    rw[<-this]at f1;simp only[execOp,F];exact Cu (run_build w' t _ A' f1)
   ·exact h.elim
  ·exact h.elim
 case load t x=>
  split at h
  ·rename_i l hl;obtain⟨y,h,U⟩:=bB (S:=S) (w:=w) h;obtain⟨z,I,V⟩:=GH hl hH h;exact⟨z,I,fun E=>oR.of_does (V E _ (U E _ (ev x (by simp)))) (fun o F=>by simp[execOp,F])⟩
  ·exact h.elim
 case nilCheck x=>
  obtain⟨y,h,U⟩:=bB (S:=S) (w:=w) h;split at h
  ·refine⟨_,h,fun E=>?_⟩;have e:=U E _ (ev x (by simp));refine⟨_,e,fun w' _ o F=>?_⟩;simp only[rep]at e;obtain⟨b,p,e,_⟩:=e;simp[execOp,F,e]
  ·refine⟨_,h,fun E=>?_⟩;have e:=U E _ (ev x (by simp));refine⟨_,e,fun w' _ o F=>?_⟩;simp only[rep]at e;obtain⟨_,b,p,c,_,e⟩:=e;simp[execOp,F,e]
  ·obtain⟨h0,cs,off,h⟩:=h;exact⟨_,h,fun E=>(h0 E).elim⟩
  ·exact h.elim
 case binOp op t x y t'=>
  split at h
  ·rename_i ac;have U:y=.const (.slice none 0 0):=by
    unfold vQ at ac;split at ac
    ·rfl
    ·simp at ac
   subst U;obtain⟨x',h,O⟩:=bB (S:=S) (w:=w) h;obtain⟨af,h⟩:=h;obtain⟨e,ak⟩:=BJ af;have J:∀(b:Bool) (Y:Option Addr) (n c:Nat),a.eval x=.slice Y n c->(op=.eql/\b=Y.isNone\/op=.neq/\b= !Y.isNone)->oR P S H w a (.binOp op t x (.const (.slice none 0 0)) t') (.v (.bool b)):=by
    intro b Y n c O hb;refine⟨.bool b,by simp only[rep],fun w' _ o F=>?_⟩;have ec:a.eval (.const (.slice none 0 0))=.slice none 0 0:=rfl;simp only[execOp,F,O,ec];have E:(eqGuard op t x (.const (.slice none 0 0)) (.slice Y n c) (.slice none 0 0)).run P w'=.ok () w':=jG op t x _ _ _ (by simp) (by simp) w';have he:(Op.equal t (.slice Y n c) (.slice none 0 0)).run P w'=.ok Y.isNone w':=by have e0:Op.equal t (.slice Y n c) (.slice none 0 0)=Op.equalIn (9999+1) t (.slice Y n c) (.slice none 0 0):=rfl;rw[e0];unfold Op.equalIn;cases Y <;> simp[run_underlying ak]
    rcases hb with⟨rfl,rfl⟩|⟨rfl,rfl⟩
    ·exact Cu (by simp only[Sem.run_bind,E,Result.andThen_ok];simp[binOp,he])
    ·exact Cu (by simp only[Sem.run_bind,E,Result.andThen_ok];simp[binOp,he])
   by_cases E:gt G
   ·have ex:=O E _ (ev x (by simp));unfold uB at h;split at h
    ·simp only[rep]at ex;obtain⟨Y,n,c,Z,hl,_,_,hc⟩:=ex;cases Y with
     | none=>
      rcases hc with hc|⟨b,o,sz,hc,_⟩
      ·exact⟨_,h.1 hc,fun _=>J _ _ _ _ Z (.inl ⟨rfl,rfl⟩)⟩
      ·simp at hc
     | some Y=>exact⟨_,h.2,fun _=>J _ _ _ _ Z (.inl ⟨rfl,rfl⟩)⟩
    ·simp only[rep]at ex;obtain⟨Y,n,c,Z,hl,_,_,hc⟩:=ex;cases Y with
     | none=>
      rcases hc with hc|⟨b,o,sz,hc,_⟩
      ·exact⟨_,h.1 hc,fun _=>J _ _ _ _ Z (.inr ⟨rfl,rfl⟩)⟩
      ·simp at hc
     | some Y=>exact⟨_,h.2,fun _=>J _ _ _ _ Z (.inr ⟨rfl,rfl⟩)⟩
    ·simp only[rep]at ex;obtain⟨_,_,Y,n,c,Z⟩:=ex;cases Y with
     | none=>exact⟨_,h.1,fun _=>J _ _ _ _ Z (.inl ⟨rfl,rfl⟩)⟩
     | some Y=>exact⟨_,h.2,fun _=>J _ _ _ _ Z (.inl ⟨rfl,rfl⟩)⟩
    ·simp only[rep]at ex;obtain⟨_,_,Y,n,c,Z⟩:=ex;cases Y with
     | none=>exact⟨_,h.1,fun _=>J _ _ _ _ Z (.inr ⟨rfl,rfl⟩)⟩
     | some Y=>exact⟨_,h.2,fun _=>J _ _ _ _ Z (.inr ⟨rfl,rfl⟩)⟩
    ·simp only[rep]at ex;exact⟨_,h,fun _=>J _ none 0 0 ex (.inl ⟨rfl,rfl⟩)⟩
    ·simp only[rep]at ex;exact⟨_,h,fun _=>J _ none 0 0 ex (.inr ⟨rfl,rfl⟩)⟩
    ·exact h.elim
   ·unfold uB at h;split at h
    ·exact⟨_,h.2,fun X=>absurd X E⟩
    ·exact⟨_,h.2,fun X=>absurd X E⟩
    ·exact⟨_,h.2,fun X=>absurd X E⟩
    ·exact⟨_,h.2,fun X=>absurd X E⟩
    ·exact⟨_,h,fun X=>absurd X E⟩
    ·exact⟨_,h,fun X=>absurd X E⟩
    ·exact h.elim
  obtain⟨x',h,O⟩:=bB (S:=S) (w:=w) h;obtain⟨y',h,U⟩:=bB (S:=S) (w:=w) h;obtain⟨z,I,V⟩:=TZ (S:=S) (H:=H) (w:=w) h;exact⟨z,I,fun E=>oR.of_does (V E _ _ (O E _ (ev x (by simp))) (U E _ (ev y (by simp))) x y) (fun o F=>by simp[execOp,F])⟩
 case unOp op t x=>obtain⟨x',h,O⟩:=bB (S:=S) (w:=w) h;obtain⟨z,I,V⟩:=Zi (P:=P) (S:=S) (H:=H) (w:=w) h;exact⟨z,I,fun E=>oR.of_does (V _ (O E _ (ev x (by simp)))) (fun o F=>by simp[execOp,F])⟩
 case convert src dst x=>obtain⟨x',h,O⟩:=bB (S:=S) (w:=w) h;obtain⟨z,I,V⟩:=SD (S:=S) (H:=H) (w:=w) h;exact⟨z,I,fun E=>oR.of_does (V _ (O E _ (ev x (by simp)))) (fun o F=>by simp[execOp,F])⟩
 case slice t x lo hi m=>
  cases m with
  | some m=>
   cases lo with
   | some lo=>exact h.elim
   | none=>
    cases hi with
    | none=>exact h.elim
    | some hi=>simp only at h;obtain⟨x',h,O⟩:=bB (S:=S) (w:=w) h;obtain⟨ae,h,aa⟩:=bB (S:=S) (w:=w) h;obtain⟨m',h,hm⟩:=bB (S:=S) (w:=w) h;obtain⟨z,I,V⟩:=GP (S:=S) (w:=w) (H:=H) h;exact⟨z,I,fun E=>oR.of_does (V E _ _ _ (O E _ (ev x (by simp))) (aa E _ (ev hi (by simp))) (hm E _ (ev m (by simp)))) (fun o F=>by simp[execOp,F])⟩
  | none=>
   simp only at h;obtain⟨x',h,O⟩:=bB (S:=S) (w:=w) h;cases lo with
   | some lo=>
    cases hi with
    | some hi=>
     obtain⟨ai,h,ab⟩:=bB (S:=S) (w:=w) h;obtain⟨ae,h,aa⟩:=bB (S:=S) (w:=w) h;obtain⟨z,I,V⟩:=vA hH h;refine⟨z,I,fun E=>oR.of_does (V E _ (some (a.eval lo)) (some (a.eval hi)) (O E _ (ev x (by simp))) ?_ (by simp) ?_ (by simp)) (fun o F=>by simp[execOp,F])⟩
     ·intro y U;injection U with U;subst U;exact⟨_,rfl,ab E _ (ev lo (by simp))⟩
     ·intro y U;injection U with U;subst U;exact⟨_,rfl,aa E _ (ev hi (by simp))⟩
    | none=>obtain⟨ai,h,ab⟩:=bB (S:=S) (w:=w) h;obtain⟨z,I,V⟩:=vA hH h;refine⟨z,I,fun E=>oR.of_does (V E _ (some (a.eval lo)) none (O E _ (ev x (by simp))) ?_ (by simp) (by simp) (by simp)) (fun o F=>by simp[execOp,F])⟩;intro y U;injection U with U;subst U;exact⟨_,rfl,ab E _ (ev lo (by simp))⟩
   | none=>
    cases hi with
    | some hi=>obtain⟨ae,h,aa⟩:=bB (S:=S) (w:=w) h;obtain⟨z,I,V⟩:=vA hH h;refine⟨z,I,fun E=>oR.of_does (V E _ none (some (a.eval hi)) (O E _ (ev x (by simp))) (by simp) (by simp) ?_ (by simp)) (fun o F=>by simp[execOp,F])⟩;intro y U;injection U with U;subst U;exact⟨_,rfl,aa E _ (ev hi (by simp))⟩
    | none=>exact h.elim
 case fieldAddr t x f=>obtain⟨x',h,O⟩:=bB (S:=S) (w:=w) h;obtain⟨z,I,V⟩:=Fo (G:=G) (S:=S) (H:=H) (w:=w) h;exact⟨z,I,fun E=>oR.of_does (V E _ (O E _ (ev x (by simp)))) (fun o F=>by simp[execOp,F])⟩
 case field t x f=>
  split at h
  ·rename_i o l F;obtain⟨x',h,O⟩:=bB (S:=S) (w:=w) h;obtain⟨fs,fd,i,hu,hf,rfl,hi,_,hl⟩:=CT F;obtain⟨z,I,V⟩:=GV (S:=S) (H:=H) (w:=w) hl h;refine⟨z,I,fun E=>?_⟩;obtain⟨cs,e,V⟩:=V E _ (O E _ (ev x (by simp)));refine oR.of_does (s:=Instr.field t (.agg cs) f) ?_ (fun o F=>by simp[execOp,F,e]);obtain⟨v,Z,hr⟩:=V;refine⟨v,Z,fun w' ha=>?_⟩;simp[Instr.field,run_underlying hu,hf,asAgg,hr w' ha]
  ·exact h.elim
 case indexAddr t x i=>obtain⟨x',h,O⟩:=bB (S:=S) (w:=w) h;obtain⟨i',h,hi⟩:=bB (S:=S) (w:=w) h;obtain⟨z,I,V⟩:=FV hH h;exact⟨z,I,fun E=>oR.of_does (V E _ _ (O E _ (ev x (by simp))) (hi E _ (ev i (by simp)))) (fun o F=>by simp[execOp,F])⟩
 case index t x i=>obtain⟨x',h,O⟩:=bB (S:=S) (w:=w) h;obtain⟨i',h,hi⟩:=bB (S:=S) (w:=w) h;obtain⟨z,I,V⟩:=OA (S:=S) (H:=H) (w:=w) h;exact⟨z,I,fun E=>oR.of_does (V E _ _ (O E _ (ev x (by simp))) (hi E _ (ev i (by simp)))) (fun o F=>by simp[execOp,F])⟩
 case extract x i=>
  obtain⟨x',h,O⟩:=bB (S:=S) (w:=w) h;split at h
  ·rename_i vs;refine⟨_,h.2,fun E=>?_⟩;have e:=O E _ (ev x (by simp));simp only[rep]at e;obtain⟨l,e,hl⟩:=e;obtain⟨u,h1,h2⟩:=EB vs l i hl (h.1 E);exact⟨u,h2,fun w' _ o F=>by simp[execOp,F,e,Instr.extract,h1]⟩
  ·exact h.elim
 case lookup t x i ok=>obtain⟨x',h,O⟩:=bB (S:=S) (w:=w) h;obtain⟨i',h,hi⟩:=bB (S:=S) (w:=w) h;obtain⟨z,I,V⟩:=KF (G:=G) hH h;exact⟨z,I,fun E=>oR.of_does (V E _ _ (O E _ (ev x (by simp))) (hi E _ (ev i (by simp)))) (fun o F=>by simp[execOp,F])⟩
 case makeFunc f first cap=>
  cases f <;> simp only at h <;> try exact h.elim
  rename_i f;obtain⟨hf,h⟩:=h;subst hf;obtain⟨ys,I,ag⟩:=qC hF cap.toList (fun x O=>hb x (by simp[Array.mem_toList_iff.1 O])) h;refine⟨_,I,fun E=>⟨.func (.func f) #[] (cap.map a.eval),?_,fun w' _ o F=>by simp[execOp,F,Instr.makeFunc]⟩⟩;simp only[rep];exact⟨cap.toList.map a.eval,by rw[<-Array.toList_map],ag E⟩
def DN{H':aH}{ρ:Env}{a:Act}{t:TypeId}{x:Operand}{lo hi m:Option Operand}(hb:∀y∈(Op.slice t x lo hi m).operands,opB a.tmps.size y=true)(hF:FR S w ρ a)(Z:BY S w H)(h:jN P G ρ H (.slice t x lo hi m) K):
  ∃z,K z/\(gt G->oR P S H' w a (.slice t x lo hi m) z):=by
 have ev:=fun x J=>dG hF (hb x J)
 simp only[jN]at h;simp only[Op.operands]at ev hb;cases m with
 | some m=>
  cases lo with
  | some lo=>exact h.elim
  | none=>
   cases hi with
   | none=>exact h.elim
   | some hi=>simp only at h;obtain⟨x',h,J⟩:=bB (S:=S) (w:=w) h;obtain⟨Y,h,I⟩:=bB (S:=S) (w:=w) h;obtain⟨m',h,hm⟩:=bB (S:=S) (w:=w) h;obtain⟨z,X,O⟩:=GP (S:=S) (w:=w) (H:=H') h;exact⟨z,X,fun E=>oR.of_does (O E _ _ _ (J E _ (ev x (by simp))) (I E _ (ev hi (by simp))) (hm E _ (ev m (by simp)))) (fun o U=>by simp[execOp,U])⟩
 | none=>
  simp only at h;obtain⟨x',h,J⟩:=bB (S:=S) (w:=w) h;cases lo with
  | some lo=>
   cases hi with
   | some hi=>
    obtain⟨aa,h,V⟩:=bB (S:=S) (w:=w) h;obtain⟨Y,h,I⟩:=bB (S:=S) (w:=w) h;obtain⟨z,X,O⟩:=vA Z h;refine⟨z,X,fun E=>oR.of_does (O E _ (some (a.eval lo)) (some (a.eval hi)) (J E _ (ev x (by simp))) ?_ (by simp) ?_ (by simp)) (fun o U=>by simp[execOp,U])⟩
    ·intro y F;injection F with F;subst F;exact⟨_,rfl,V E _ (ev lo (by simp))⟩
    ·intro y F;injection F with F;subst F;exact⟨_,rfl,I E _ (ev hi (by simp))⟩
   | none=>obtain⟨aa,h,V⟩:=bB (S:=S) (w:=w) h;obtain⟨z,X,O⟩:=vA Z h;refine⟨z,X,fun E=>oR.of_does (O E _ (some (a.eval lo)) none (J E _ (ev x (by simp))) ?_ (by simp) (by simp) (by simp)) (fun o U=>by simp[execOp,U])⟩;intro y F;injection F with F;subst F;exact⟨_,rfl,V E _ (ev lo (by simp))⟩
  | none=>
   cases hi with
   | some hi=>obtain⟨Y,h,I⟩:=bB (S:=S) (w:=w) h;obtain⟨z,X,O⟩:=vA Z h;refine⟨z,X,fun E=>oR.of_does (O E _ none (some (a.eval hi)) (J E _ (ev x (by simp))) (by simp) (by simp) ?_ (by simp)) (fun o U=>by simp[execOp,U])⟩;intro y F;injection F with F;subst F;exact⟨_,rfl,I E _ (ev hi (by simp))⟩
   | none=>exact h.elim
end
end Go.Aw
end
section
namespace Go.Aw
def akF:Array Value:=(Go.Lib.pow10Tab.map fun z=>Value.int .u64 z).toArray
def Ur:Array Value:=(Go.Lib.deBruijn64tab.map fun z:Nat=>Value.int .u8 (z:Int)).toArray
def YJ:List (Nat×Array Value):=[(1,akF),(3,Ur)]
end Go.Aw
end
section
namespace Go.Aw
open Go.RowKit
def vG(w:World)(g:Nat):Option (Array Value):=match w.heap[g]? with
 | some (.cells cs _ _)=>some cs
 | _=>none
def Ny(S:Sg)(w:World):Prop:=∀t∈YJ,S.ro t.1/\vG w t.1=some t.2
def Ny.keep{S S':Sg}{w w':World}(h:Ny S w)(F:S.le S')(I:iL S w w'):Ny S' w':=fun t E=>⟨F.ro _ (h t E).1,by unfold vG;rw[I t.1 (h t E).1];exact(h t E).2⟩
structure St(S:Sg)(w:World)(H:aH):Prop where
 ro_fz:∀k,S.ro k->S.fz k
 fz_lt:∀k,S.fz k->k<w.heap.size
 rows:BY S w H
 free:∀k r,H k=some r->∀g,blk (S.loc k)=some g->¬S.fz g
 disj:∀k k' r r',H k=some r->H k'=some r'->k≠k'->∀g,blk (S.loc k)=some g->blk (S.loc k')≠some g
 tabs:Ny S w
structure Grow(S:Sg)(w:World)(S':Sg)(w':World):Prop where
 le:S.le S'
 fz:∀k,S.fz k->S'.fz k
 os:w'.os=w.os
 tape:w'.tape=w.tape
 output:w'.output=w.output
 size:w.heap.size<=w'.heap.size
 same:∀k,S.fz k->w'.heap[k]?=w.heap[k]?
 newro:∀k,S'.ro k->S.ro k\/¬S.fz k
def Grow.refl(S:Sg)(w:World):Grow S w S w:=⟨S.le_refl,fun _ h=>h,rfl,rfl,rfl,Nat.le_refl _,fun _ _=>rfl,fun _ h=>.inl h⟩
def Grow.trans{S S' I:Sg}{w w' J:World}(h:Grow S w S' w')(E:Grow S' w' I J):Grow S w I J:=
 ⟨Sg.le_trans h.le E.le,fun k F=>E.fz k (h.fz k F),E.os.trans h.os,E.tape.trans h.tape,E.output.trans h.output,Nat.le_trans h.size E.size,
  fun k F=>(E.same k (h.fz k F)).trans (h.same k F),
  fun k F=>by rcases E.newro k F with h1|h1;exact h.newro k h1;exact .inr fun O=>h1 (h.fz k O)⟩
def gV(N:Nat)(H H':aH):Prop:=∀k,k<N->H k=none->H' k=none
def gV.refl(N:Nat)(H:aH):gV N H H:=fun _ _ h=>h
def gV.trans{N F:Nat}{H H' E:aH}(h:gV N H H')(J:gV F H' E)(O:N<=F):gV N H E:=fun k I h0=>J k (Nat.lt_of_lt_of_le I O) (h k I h0)
section
variable{S S':Sg}{w w':World}{H H':aH}
def St.kept(F:St S w H)(I:∀k,S.fz k->w'.heap[k]?=w.heap[k]?):iL S w w':=fun k E=>I k (F.ro_fz k E)
def Grow.kept(F:St S w H)(E:Grow S w S' w'):iL S w w':=F.kept E.same
def St.fresh(E:St S w H):H S.N=none:=by
 cases h:H S.N with
 | none=>rfl
 | some r=>exact absurd (E.rows _ r h).lt (Nat.lt_irrefl _)
def RowOK.block_lt{k:Nat}{r:Row}(h:RowOK S w k r){g:Nat}(E:blk (S.loc k)=some g):g<w.heap.size:=by
 rcases h.own with⟨xs,F,_⟩|⟨J,ms,h1,I,_⟩
 ·refine(F.lt g ?_).2;rcases F.2 with⟨hv,_⟩|⟨_,_,_,hv,_⟩ <;> (rw[hv]at E |-;exact E)
 ·rw[h1]at E;injection E with E;subst E;exact(Array.getElem?_eq_some_iff.1 I).1
def Fz(E:S.le S')(F:iL S w w'):∀(i:Nat) (es:List (List AV)) (ms:List MapEntry),mR S w i es ms->mR S' w' i es ms
 | _,[],_,h=>h
 | i,cs::r,ms,h=>by simp only[mR]at h |-;obtain⟨m,t,rfl,h1,I,J⟩:=h;exact⟨m,t,rfl,h1,eT E F _ _ I,Fz E F (i+1) r t J⟩
def RowOK.keep{k:Nat}{r:Row}(h:RowOK S w k r)(E:S.le S')(J:iL S w w')(O:∀g,blk (S.loc k)=some g->w'.heap[g]?=w.heap[g]?):RowOK S' w' k r:=by
 refine⟨Nat.lt_of_lt_of_le h.lt E.N,by rw[E.sz k h.lt];exact h.sz,h.pos,h.len,?_⟩;rcases h.own with⟨xs,U,X,h1⟩|⟨g,ms,h1,I,F⟩
 ·refine .inl ?_;unfold N8;rw[E.loc k h.lt];refine⟨xs,⟨U.1,?_⟩,eT E J _ _ X,h1⟩;rcases U.2 with I|⟨g,cap,cur,V,F,Y,Z⟩
  ·exact .inl I
  ·exact .inr ⟨g,cap,cur,V,F,by rw[O g (by rw[V];rfl)];exact Y,Z⟩
 ·refine .inr ⟨g,ms,?_,?_,Fz E J 0 _ _ F.1,F.2⟩
  ·rw[E.loc k h.lt];exact h1
  ·rw[O g (by rw[h1];rfl)];exact I
def FR.keep{ρ:Env}{a:Act}(h:FR S w ρ a)(E:S.le S')(I:iL S w w'):FR S' w' ρ a:=fun t F=>nO E I _ _ (h t F)
def FR.put{ρ:Env}{a:Act}(h:FR S w ρ a){d:Option Nat}{z:AV}{v:Value}(J:rep S w z v):FR S w (upd ρ d z) (a.put d v):=by
 intro t F;cases d with
 | none=>exact h t F
 | some d=>
  simp only[Act.put,upd]at F |-;have E:t<a.tmps.size:=by simpa using F
  by_cases e:t=d
  ·subst e;simpa[Array.getD,E]using J
  ·have h1:=h t E;have I:d≠t:=fun h=>e h.symm
   simp only[if_neg e];have:(a.tmps.setIfInBounds d v).getD t undef=a.tmps.getD t undef:=by simp[Array.getD_eq_getD_getElem?,I]
   rw[this];exact h1
def Sg.addRow(S:Sg)(v:Value)(sz:Nat):Sg:={ S with loc:=fun k=>if k=S.N then v else S.loc k,sz:=fun k=>if k=S.N then sz else S.sz k,N:=S.N+1 }
def Sg.le_addRow(S:Sg)(v:Value)(sz:Nat):S.le (S.addRow v sz):=
 ⟨fun _ h=>h,Nat.le_succ _,fun k E=>by simp[Sg.addRow,Nat.ne_of_lt E],fun k E=>by simp[Sg.addRow,Nat.ne_of_lt E]⟩
def qL{k:Nat}{r:Option Row}:aM H k r k=r:=aB H k r
def St.newRow(J:St S w H){e:TypeId}{sz cap:Nat}{es:List (List AV)}{xs:List Value}{cur:Array Value}(aj:0<sz)(ac:∀cs∈es,cs.length=sz)
  (hr:bN S w es.flatten xs) (h1:∀u∈xs,u.oneCell'=true) (hn:es.length<=cap) (al:cap<=maxLen) (ah:cur.size=cap*sz) (ad:cur.toList.take (es.length*sz)=xs) {w':World}
  (hw:w'.heap=w.heap.push (.cells cur e)) (am:w'.os=w.os) (ae:w'.tape=w.tape) (af:w'.output=w.output):
  St (S.addRow (.slice (some ⟨w.heap.size,0,none⟩) es.length cap) sz) w' (aM H S.N (some ⟨e,sz,es⟩))/\Grow S w (S.addRow (.slice (some ⟨w.heap.size,0,none⟩) es.length cap) sz) w':=by
 have U:∀k,k<w.heap.size->w'.heap[k]?=w.heap[k]?:=fun k F=>by rw[hw,Array.getElem?_push,if_neg (by omega)]
 have ai:w'.heap[w.heap.size]?=some (.cells cur e (0,0)):=by rw[hw];simp
 have an:w'.heap.size=w.heap.size+1:=by rw[hw];simp
 have ab:=S.le_addRow (.slice (some ⟨w.heap.size,0,none⟩) es.length cap) sz;have V:iL S w w':=fun k F=>U k (J.fz_lt k (J.ro_fz k F))
 have E:(S.addRow (.slice (some ⟨w.heap.size,0,none⟩) es.length cap) sz).loc S.N=.slice (some ⟨w.heap.size,0,none⟩) es.length cap:=by simp[Sg.addRow]
 have Y:∀k,k<S.N->(S.addRow (.slice (some ⟨w.heap.size,0,none⟩) es.length cap) sz).loc k=S.loc k:=ab.loc;have I:∀k r,k≠S.N->aM H S.N (some ⟨e,sz,es⟩) k=some r->H k=some r:=fun k r F h=>by rwa [aJ _ _ _ _ F]at h
 refine⟨⟨J.ro_fz,fun k F=>by have:=J.fz_lt k F;omega,?_,?_,?_,J.tabs.keep ab V⟩,⟨ab,fun _ h=>h,am,ae,af,by omega,fun k F=>U k (J.fz_lt k F),fun _ h=>.inl h⟩⟩
 ·intro k r F;by_cases e0:k=S.N
  ·subst e0;rw[qL]at F;injection F with F;subst F;refine⟨Nat.lt_succ_self _,by simp[Sg.addRow],aj,ac,.inl ⟨xs,⟨?_,.inr ⟨w.heap.size,cap,cur,E,Nat.zero_le _,ai,hn,al,ah,ad⟩⟩,eT ab V _ _ hr,h1⟩⟩;rw[iV _ _ hr,rE es ac]
  ·have O:=I k r e0 F;exact(J.rows k r O).keep ab V fun g Z=>U g ((J.rows k r O).block_lt Z)
 ·intro k r F g Z;by_cases e0:k=S.N
  ·subst e0;rw[E]at Z;simp only[blk,Option.some.injEq]at Z;subst Z;exact fun h=>Nat.lt_irrefl _ (J.fz_lt _ h)
  ·have O:=I k r e0 F;rw[Y k (J.rows k r O).lt]at Z;exact J.free k r O g Z
 ·intro k k' r r' F O ak g Z X;by_cases e0:k=S.N
  ·subst e0;rw[E]at Z;simp only[blk,Option.some.injEq]at Z;subst Z;have aa:=I k' r' (Ne.symm ak) O;rw[Y k' (J.rows k' r' aa).lt]at X;exact Nat.lt_irrefl _ ((J.rows k' r' aa).block_lt X)
  ·have aa:=I k r e0 F;rw[Y k (J.rows k r aa).lt]at Z;by_cases e1:k'=S.N
   ·subst e1;rw[E]at X;simp only[blk,Option.some.injEq]at X;subst X;exact Nat.lt_irrefl _ ((J.rows k r aa).block_lt Z)
   ·have ag:=I k' r' e1 O;rw[Y k' (J.rows k' r' ag).lt]at X;exact J.disj k k' r r' aa ag ak g Z X
def St.newMap(I:St S w H){w':World}(hw:w'.heap=w.heap.push (.map #[] 0))(ag:w'.os=w.os)(ab:w'.tape=w.tape)(ac:w'.output=w.output):
  St (S.addRow (.map (some w.heap.size)) 2) w' (aM H S.N (some ⟨0,2,[]⟩))/\Grow S w (S.addRow (.map (some w.heap.size)) 2) w':=by
 have X:∀k,k<w.heap.size->w'.heap[k]?=w.heap[k]?:=fun k F=>by rw[hw,Array.getElem?_push,if_neg (by omega)]
 have ad:w'.heap[w.heap.size]?=some (.map #[] 0):=by rw[hw];simp
 have ah:w'.heap.size=w.heap.size+1:=by rw[hw];simp
 have V:=S.le_addRow (.map (some w.heap.size)) 2;have aa:iL S w w':=fun k F=>X k (I.fz_lt k (I.ro_fz k F))
 have E:(S.addRow (.map (some w.heap.size)) 2).loc S.N=.map (some w.heap.size):=by simp[Sg.addRow]
 have O:∀k r,k≠S.N->aM H S.N (some ⟨0,2,[]⟩) k=some r->H k=some r:=fun k r F h=>by rwa [aJ _ _ _ _ F]at h
 refine⟨⟨I.ro_fz,fun k F=>by have:=I.fz_lt k F;omega,?_,?_,?_,I.tabs.keep V aa⟩,⟨V,fun _ h=>h,ag,ab,ac,by omega,fun k F=>X k (I.fz_lt k F),fun _ h=>.inl h⟩⟩
 ·intro k r F;by_cases e0:k=S.N
  ·subst e0;rw[qL]at F;injection F with F;subst F;exact⟨Nat.lt_succ_self _,by simp[Sg.addRow],by simp,by simp,.inr ⟨w.heap.size,[],E,ad,by simp[mR],rfl⟩⟩
  ·have J:=O k r e0 F;exact(I.rows k r J).keep V aa fun g Y=>X g ((I.rows k r J).block_lt Y)
 ·intro k r F g Y;by_cases e0:k=S.N
  ·subst e0;rw[E]at Y;simp only[blk,Option.some.injEq]at Y;subst Y;exact fun h=>Nat.lt_irrefl _ (I.fz_lt _ h)
  ·have J:=O k r e0 F;rw[V.loc k (I.rows k r J).lt]at Y;exact I.free k r J g Y
 ·intro k k' r r' F J af g Y U;by_cases e0:k=S.N
  ·subst e0;rw[E]at Y;simp only[blk,Option.some.injEq]at Y;subst Y;have Z:=O k' r' (Ne.symm af) J;rw[V.loc k' (I.rows k' r' Z).lt]at U;exact Nat.lt_irrefl _ ((I.rows k' r' Z).block_lt U)
  ·have Z:=O k r e0 F;rw[V.loc k (I.rows k r Z).lt]at Y;by_cases e1:k'=S.N
   ·subst e1;rw[E]at U;simp only[blk,Option.some.injEq]at U;subst U;exact Nat.lt_irrefl _ ((I.rows k r Z).block_lt Y)
   ·have ae:=O k' r' e1 J;rw[V.loc k' (I.rows k' r' ae).lt]at U;exact I.disj k k' r r' Z ae af g Y U
def St.setMap(U:St S w H){k g:Nat}{r:Row}(hk:H k=some r)(hl:S.loc k=.map (some g)){ms:List MapEntry}{es:List (List AV)}(he:mR S w 0 es ms)(h2:r.sz=2)(ag:g<w.heap.size):
  St S { w with heap:=w.heap.setIfInBounds g (.map ms.toArray ms.length) } (aM H k (some { r with es:=es }))/\Grow S w S { w with heap:=w.heap.setIfInBounds g (.map ms.toArray ms.length) }:=by
 have hR:=U.rows k r hk;have ac:¬S.fz g:=U.free k r hk g (by rw[hl];rfl);have I:∀j,j≠g->(w.heap.setIfInBounds g (.map ms.toArray ms.length))[j]?=w.heap[j]?:=fun j E=>by rw[Array.getElem?_setIfInBounds,if_neg (Ne.symm E)]
 have Z:(w.heap.setIfInBounds g (.map ms.toArray ms.length))[g]?=some (.map ms.toArray ms.length):=by rw[Array.getElem?_setIfInBounds];simp[ag]
 have F:iL S w { w with heap:=w.heap.setIfInBounds g (.map ms.toArray ms.length) }:=fun j E=>I j (fun e=>ac (e▸U.ro_fz j E))
 have p:∀j r',aM H k (some { r with es:=es }) j=some r'->∃V,H j=some V:=fun j r' E=>by
  by_cases e:j=k
  ·subst e;exact⟨r,hk⟩
  ·rw[aJ _ _ _ _ e]at E;exact⟨_,E⟩
 have ab:∀(i:Nat) (es:List (List AV)) (ms:List MapEntry),mR S w i es ms->∀cs∈es,cs.length=2:=by
  intro i es;induction es generalizing i with
  | nil=>simp
  | cons c es ih=>
   intro ms h cs O;simp only[mR]at h;obtain⟨m,t,rfl,_,h4,h5⟩:=h;rcases List.mem_cons.1 O with rfl|O
   ·have:=iV _ _ h4;simpa using this.symm
   ·exact ih (i+1) t h5 cs O
 refine⟨⟨U.ro_fz,fun j E=>by simpa using U.fz_lt j E,?_,?_,?_,U.tabs.keep S.le_refl F⟩,⟨S.le_refl,fun _ h=>h,rfl,rfl,rfl,by simp,fun j E=>I j (fun e=>ac (e▸E)),fun _ h=>.inl h⟩⟩
 ·intro j r' E;by_cases e:j=k
  ·subst e;rw[qL]at E;injection E with E;subst E;exact⟨hR.lt,hR.sz,hR.pos,fun cs O=>(ab 0 es ms he cs O).trans h2.symm,.inr ⟨g,ms,hl,Z,Fz S.le_refl F 0 _ _ he,h2⟩⟩
  ·rw[aJ _ _ _ _ e]at E;exact(U.rows j r' E).keep S.le_refl F fun Y J=>I Y (fun e'=>U.disj j k r' r E hk e Y J (by rw[hl,e'];rfl))
 ·intro j r' E Y J;obtain⟨V,X⟩:=p j r' E;exact U.free j V X Y J
 ·intro j j' r1 r2 E X aa Y J af;obtain⟨q1,ad⟩:=p j r1 E;obtain⟨q2,ae⟩:=p j' r2 X;exact U.disj j j' q1 q2 ad ae aa Y J af
def St.nilRow(X:St S w H)(e:TypeId){sz:Nat}(ab:0<sz):
  St (S.addRow (.slice none 0 0) sz) w (aM H S.N (some ⟨e,sz,[]⟩))/\Grow S w (S.addRow (.slice none 0 0) sz) w:=by
 have I:=S.le_addRow (.slice none 0 0) sz;have E:(S.addRow (.slice none 0 0) sz).loc S.N=.slice none 0 0:=by simp[Sg.addRow]
 have F:∀k r,k≠S.N->aM H S.N (some ⟨e,sz,[]⟩) k=some r->H k=some r:=fun k r O h=>by rwa [aJ _ _ _ _ O]at h
 refine⟨⟨X.ro_fz,X.fz_lt,?_,?_,?_,X.tabs.keep I (iL.refl S w)⟩,⟨I,fun _ h=>h,rfl,rfl,rfl,Nat.le_refl _,fun _ _=>rfl,fun _ h=>.inl h⟩⟩
 ·intro k r O;by_cases Y:k=S.N
  ·subst Y;rw[qL]at O;injection O with O;subst O;refine⟨Nat.lt_succ_self _,by simp[Sg.addRow],ab,by simp,.inl ⟨[],⟨by simp,.inl ⟨E,rfl⟩⟩,by simp[bN],by simp⟩⟩
  ·have J:=F k r Y O;exact(X.rows k r J).keep I (iL.refl S w) fun _ _=>rfl
 ·intro k r O g V;by_cases Y:k=S.N
  ·subst Y;rw[E]at V;simp[blk]at V
  ·have J:=F k r Y O;rw[I.loc k (X.rows k r J).lt]at V;exact X.free k r J g V
 ·intro k k' r r' O J ac g V U;by_cases Y:k=S.N
  ·subst Y;rw[E]at V;simp[blk]at V
  ·have Z:=F k r Y O;rw[I.loc k (X.rows k r Z).lt]at V;by_cases e1:k'=S.N
   ·subst e1;rw[E]at U;simp[blk]at U
   ·have aa:=F k' r' e1 J;rw[I.loc k' (X.rows k' r' aa).lt]at U;exact X.disj k k' r r' Z aa ac g V U
def Sg.addRo(S:Sg)(g:Nat):Sg:={ S with ro:=fun k=>S.ro k\/k=g,fz:=fun k=>S.fz k\/k=g }
def Sg.le_addRo(S:Sg)(g:Nat):S.le (S.addRo g):=⟨fun _ h=>.inl h,Nat.le_refl _,fun _ _=>rfl,fun _ _=>rfl⟩
def St.newRo(I:St S w H){o:Obj}{w':World}(hw:w'.heap=w.heap.push o)(Z:w'.os=w.os)(U:w'.tape=w.tape)(X:w'.output=w.output):
  St (S.addRo w.heap.size) w' H/\Grow S w (S.addRo w.heap.size) w':=by
 have F:∀k,k<w.heap.size->w'.heap[k]?=w.heap[k]?:=fun k E=>by rw[hw,Array.getElem?_push,if_neg (by omega)]
 have aa:w'.heap.size=w.heap.size+1:=by rw[hw];simp
 have O:=S.le_addRo w.heap.size;have J:iL S w w':=fun k E=>F k (I.fz_lt k (I.ro_fz k E))
 refine⟨⟨fun k E=>E.imp (I.ro_fz k) id,fun k E=>?_,fun k r E=>(I.rows k r E).keep O J fun g Y=>F g ((I.rows k r E).block_lt Y),fun k r E g Y V=>?_,I.disj,I.tabs.keep O J⟩,
  ⟨O,fun _ h=>.inl h,Z,U,X,by omega,fun k E=>F k (I.fz_lt k E),fun k E=>E.imp id (fun e V=>by have:=I.fz_lt k V;omega)⟩⟩
 ·rcases E with E|E
  ·have:=I.fz_lt k E;omega
  ·omega
 ·rcases V with V|V
  ·exact I.free k r E g Y V
  ·have:=(I.rows k r E).block_lt Y;omega
def RowOK.open{k:Nat}{r:Row}(h:RowOK S w k r){E:Option Addr}{U O:Nat}(F:S.loc k=.slice E U O)(I:r.es≠[]):∃g cap cur,S.loc k=.slice (some ⟨g,0,none⟩) r.es.length cap/\w.heap[g]?=some (.cells cur r.e (0,0))/\r.es.length<=cap/\cap<=maxLen/\cur.size=cap*r.sz /\
  bN S w r.es.flatten (cur.toList.take (r.es.length*r.sz))/\∀u∈cur.toList.take (r.es.length*r.sz),u.oneCell'=true:=by
 obtain⟨xs,V,X,h1⟩:=h.sl F;rcases V.2 with⟨_,hn⟩|⟨g,cap,cur,hv,_,J,h3,Z,h5,Y⟩
 ·exact absurd (List.eq_nil_of_length_eq_zero hn) I
 ·subst Y;exact⟨g,cap,cur,hv,J,h3,Z,h5,X,h1⟩
def BO:∀(es:List (List AV)) (i:Nat) (cs:List AV) {sz:Nat},(∀c∈es,c.length=sz)->i<es.length->cs.length=sz ->
  (es.set i cs).flatten=es.flatten.take (i*sz)++cs++es.flatten.drop (i*sz+sz)
 | [],_,_,_,_,h,_=>by simp at h
 | x::r,0,cs,sz,hl,_,E=>by have F:=hl x (by simp);simp[<-F]
 | x::r,i+1,cs,sz,hl,hi,E=>by
  have F:=hl x (by simp);have ih:=BO r i cs (fun c E=>hl c (by simp[E])) (by simpa using hi) E;simp only[List.set_cons_succ,List.flatten_cons,ih];have I:(i+1)*sz=x.length+i*sz:=by rw[F,Nat.add_mul];omega
  rw[I,Nat.add_assoc,List.take_append,List.drop_append];simp[List.take_of_length_le,List.drop_eq_nil_of_le]
def St.store(O:St S w H){k:Nat}{r:Row}(hk:H k=some r){i f:Nat}{cs:List AV}{l:List Value}(hi:i<r.es.length)(hf:f+cs.length<=r.sz){an:Option Addr}{n0 c0:Nat}(aj:S.loc k=.slice an n0 c0)
   (hr:bN S w cs l) (h1:∀u∈l,u.oneCell'=true):
   ∃g n c w',S.loc k=.slice (some ⟨g,0,none⟩) n c/\(∀P:Program,(storeCells ⟨g,i*r.sz+f,none⟩ l).run P w=.ok () w') /\
     St S w' (aM H k (some { r with es:=r.es.set i (oV (r.es.getD i []) f cs) }))/\Grow S w S w':=by
 have X:=O.rows k r hk;have ao:r.es≠[]:=fun e=>by rw[e]at hi;simp at hi
 obtain⟨g,cap,cur,I,hg,ad,am,aw,ae,Z⟩:=X.open aj ao;have ac:=iV _ _ hr;have ag:(i+1)*r.sz<=r.es.length*r.sz:=Nat.mul_le_mul_right _ hi;have aq:r.es.length*r.sz<=cap*r.sz:=Nat.mul_le_mul_right _ ad;rw[Nat.add_mul,Nat.one_mul]at ag;have ab:∀P:Program,_:=fun P=>run_storeCells_at (P:=P) g (i*r.sz+f) r.e l 0 cur w hg (by rw[ac,aw];omega) h1
 simp only[Nat.add_zero]at ab;refine⟨g,_,cap,_,I,ab,?_,?_⟩
 . have U:∀j,j≠g->(w.setRow g (List.take (i*r.sz+f) cur.toList++l++List.drop (i*r.sz+f+l.length) cur.toList).toArray).heap[j]?=w.heap[j]?:=fun j E=>setRow_other w g j _ E
   have av:¬S.fz g:=O.free k r hk g (by rw[I];rfl);have F:iL S w (w.setRow g (List.take (i*r.sz+f) cur.toList++l++List.drop (i*r.sz+f+l.length) cur.toList).toArray):=fun j E=>U j (fun e=>av (e▸O.ro_fz j E))
   have Y:(r.es.getD i []).length=r.sz:=by simp only[List.getD,List.getElem?_eq_getElem hi,Option.getD_some];exact X.len _ (List.getElem_mem hi)
   have aa:(oV (r.es.getD i []) f cs).length=r.sz:=by simp only[oV,List.length_append,List.length_take,List.length_drop,Y];omega
   have e2 : List.take (r.es.length * r.sz) (List.take (i * r.sz + f) cur.toList ++ l ++ List.drop (i * r.sz + f + l.length) cur.toList) =
       (cur.toList.take (r.es.length*r.sz)).take (i*r.sz+f)++l++(cur.toList.take (r.es.length*r.sz)).drop (i*r.sz+f+l.length):=by
     rw[List.take_take,Nat.min_eq_left (by omega),List.drop_take];rw[List.take_append,List.take_append];simp only[List.length_append,List.length_take,Array.length_toList];rw[Nat.min_eq_left (by omega:i*r.sz+f<=cur.size)];rw[List.take_of_length_le (l:=List.take (i*r.sz+f) cur.toList) (by simp;omega),List.take_of_length_le (l:=l) (by omega)]
   refine⟨O.ro_fz,fun j E=>by simpa using O.fz_lt j E,?_,?_,?_,O.tabs.keep S.le_refl F⟩
   . intro j r' E;by_cases e:j=k
     . subst e;rw[qL]at E;injection E with E;subst E;refine⟨X.lt,X.sz,X.pos,?_,.inl ?_⟩
       . intro c hc;rcases List.mem_or_eq_of_mem_set hc with hc|rfl
         . exact X.len c hc
         . exact aa
       . refine⟨(List.take (i*r.sz+f) cur.toList++l++List.drop (i*r.sz+f+l.length) cur.toList).take (r.es.length*r.sz),⟨?_,.inr ⟨g,cap,_,by simpa using I,Nat.zero_le _,setRow_heap w g cur _ _ _ hg,by simpa using ad,am,?_,by simp⟩⟩,?_,?_⟩
         . simp only[List.length_set,List.length_take,List.length_append,List.length_drop,Array.length_toList];omega
         . simp only[List.size_toArray,List.length_append,List.length_take,List.length_drop,Array.length_toList];omega
         . have hx:=(eT (S.le_refl) F _ _ ae);have hy:=(eT (S.le_refl) F _ _ hr);have e1:(r.es.set i (oV (r.es.getD i []) f cs)).flatten=r.es.flatten.take (i*r.sz+f)++cs++r.es.flatten.drop (i*r.sz+f+l.length):=by
             rw[BO r.es i _ X.len hi aa];have ai:r.es.flatten.length=r.es.length*r.sz:=rE _ X.len;have ah:r.es.getD i []=(r.es.flatten.drop (i*r.sz)).take r.sz:=by
               have h0:=BO r.es i (r.es.getD i []) X.len hi Y;have hs:r.es.set i (r.es.getD i [])=r.es:=by simp only[List.getD,List.getElem?_eq_getElem hi,Option.getD_some];exact List.set_getElem_self hi
               rw[hs]at h0;have h3:(r.es.flatten.drop (i*r.sz)).take r.sz=((r.es.flatten.take (i*r.sz)++r.es.getD i []++r.es.flatten.drop (i*r.sz+r.sz)).drop (i*r.sz)).take r.sz:=by rw[<-h0]
               rw[h3,List.append_assoc,List.drop_append_of_le_length (by rw[List.length_take];omega)];rw[List.drop_eq_nil_of_le (by rw[List.length_take];omega),List.nil_append,List.take_append_of_le_length (by omega),List.take_of_length_le (by omega)]
             rw[ah,oV];have a1:List.take (i*r.sz+f) r.es.flatten=r.es.flatten.take (i*r.sz)++((r.es.flatten.drop (i*r.sz)).take r.sz).take f:=by rw[List.take_take,Nat.min_eq_left (by omega),List.take_add]
             have a2:r.es.flatten.drop (i*r.sz+f+l.length)=((r.es.flatten.drop (i*r.sz)).take r.sz).drop (f+cs.length)++r.es.flatten.drop (i*r.sz+r.sz):=by
               rw[List.drop_take,List.drop_drop,<-ac,<-Nat.add_assoc];have:List.drop (i*r.sz+r.sz) r.es.flatten=(List.drop (i*r.sz+f+l.length) r.es.flatten).drop (r.sz-(f+l.length)):=by rw[List.drop_drop];congr 1;omega
               rw[this,List.take_append_drop]
             rw[a1,a2];simp only[List.append_assoc]
           rw[e1];rw[e2];exact eG _ _ _ _ (eG _ _ _ _ (uZ _ _ _ hx) hy) (zM _ _ _ hx)
         . intro u V;rw[e2]at V;simp only[List.mem_append]at V;rcases V with(V|V)|V
           . exact Z u (List.mem_of_mem_take V)
           . exact h1 u V
           . exact Z u (List.mem_of_mem_drop V)
     . rw[aJ _ _ _ _ e]at E;exact(O.rows j r' E).keep S.le_refl F fun g' J=>U g' (fun e'=>O.disj j k r' r E hk e g' J (by rw[I,e'];rfl))
   . intro j r' E g' J;by_cases e:j=k
     . subst e;exact O.free j r hk g' J
     . rw[aJ _ _ _ _ e]at E;exact O.free j r' E g' J
   . intro j j' r1 r2 E ar af g' J au;have p:∀j r',aM H k (some { r with es:=r.es.set i (oV (r.es.getD i []) f cs) }) j=some r'->∃ap,H j=some ap:=fun j r' E=>by
       by_cases e:j=k
       . subst e;exact⟨r,hk⟩
       . rw[aJ _ _ _ _ e]at E;exact⟨_,E⟩
     obtain⟨q1,ak⟩:=p j r1 E;obtain⟨q2,al⟩:=p j' r2 ar;exact O.disj j j' q1 q2 ak al af g' J au
 . refine⟨S.le_refl,fun _ h=>h,rfl,rfl,rfl,by simp,fun j E=>setRow_other w g j _ (fun e=>O.free k r hk g (by rw[I];rfl) (e▸E)),fun _ h=>.inl h⟩
end
end Go.Aw
end
section
namespace Go.Aw
open Go.RowKit
section
variable{P:Program}{S S':Sg}{w w':World}{H H':aH}
def BE(S:Sg)(w:World)(u:Value)(news:List (List AV)):Prop:=
 ∃ad c l,u=.slice ad news.length c/\bN S w news.flatten l/\(∀x∈l,x.oneCell'=true) /\
   (news=[]\/∃b o,ad=some ⟨b,o,none⟩/\∀j x,l[j]?=some x->w.cell? ⟨b,o+j,none⟩=some x)
def N0{es:List (List AV)}{u:Value}(h:rep S w (.sl es) u):BE S w u es:=by
 simp only[rep]at h;obtain⟨J,n,c,rfl,rfl,_,_,U⟩:=h;rcases U with rfl|⟨b,o,sz,rfl,X,Y,E⟩
 ·exact⟨J,c,[],rfl,by simp[bN],by simp,.inl rfl⟩
 ·obtain⟨l,V,I,F,O⟩:=oI _ _ (Ap es o E);exact⟨_,c,l,rfl,I,F,.inr ⟨b,o,rfl,O⟩⟩
def OT{k:Nat}{r:Row}(h:RowOK S w k r){Y:Option Addr}{U O:Nat}(Z:S.loc k=.slice Y U O):BE S w (S.loc k) r.es:=by
 obtain⟨xs,F,J,h1⟩:=h.sl Z;rcases F.2 with⟨E,I⟩|⟨g,cap,cur,E,_⟩
 ·have X:=List.eq_nil_of_length_eq_zero I;have hx:xs=[]:=List.eq_nil_of_length_eq_zero (by rw[F.1,I];simp);exact⟨none,0,xs,by rw[E,I],J,h1,.inl X⟩
 ·refine⟨some ⟨g,0,none⟩,cap,xs,E,J,h1,.inr ⟨g,0,rfl,fun j x V=>?_⟩⟩;have:=F.cells (g:=g) (by rw[E];rfl) j x V
  rwa [Addr.add_lit]at this
def FQ{k a b:Nat}{r:Row}{u:Value}(Y:RowOK S w k r)(hu:rep S w (.oz k a b) u):BE S w u ((r.es.take b).drop a)/\b<=r.es.length/\a<=b:=by
 simp only[rep]at hu;obtain⟨_,ad,n,c,aa,cc,E,rfl,ab,I,O,_⟩:=hu;obtain⟨xs,ho,hr,h1⟩:=Y.sl E;have hn:n=r.es.length:=by
  rcases ho.2 with⟨X,hn⟩|⟨g,cap,cur,X,_⟩
  ·rw[E]at X;injection X with _ Z _;omega
  ·rw[E]at X;injection X
 subst hn;refine⟨?_,I,ab⟩;have F:((r.es.take b).drop a).length=b-a:=by simp;omega
 rcases Nat.lt_or_ge a b with ac|af
 ·obtain⟨g,rfl,rfl⟩:=O ac;have ae:r.es≠[]:=fun e=>by rw[e]at I;simp at I;omega
  obtain⟨g',n',c',V,U,_⟩:=Y.els E ae;rw[E]at V;injection V with J _ _;injection J with J;injection J with J;subst J;have Z:=Dl _ 0 a (Ao r.es 0 b U);rw[Nat.zero_add,Y.sz]at Z;obtain⟨l,q1,q2,q3,q4⟩:=oI _ _ (Ap _ _ Z);exact⟨_,cc,l,by rw[F],q2,q3,.inr ⟨g,a*S.sz k,rfl,q4⟩⟩
 ·have he:(r.es.take b).drop a=[]:=List.eq_nil_of_length_eq_zero (by omega);exact⟨aa,cc,[],by rw[F],by rw[he];simp[bN],by simp,.inl he⟩
def AH:∀(es:List (List AV)) (a:Nat) {sz:Nat},(∀c∈es,c.length=sz)->(es.take a).flatten=es.flatten.take (a*sz)
 | [],_,_,_=>by simp
 | x::r,0,_,_=>by simp
 | x::r,a+1,sz,hl=>by
  have E:=hl x (by simp);rw[List.take_succ_cons,List.flatten_cons,List.flatten_cons,AH r a (fun c F=>hl c (by simp[F])),Nat.add_mul,Nat.one_mul,List.take_append,E];rw[List.take_of_length_le (l:=x) (by omega)]
  congr 2
  omega
def En:∀(es:List (List AV)) (a:Nat) {sz:Nat},(∀c∈es,c.length=sz)->(es.drop a).flatten=es.flatten.drop (a*sz)
 | [],_,_,_=>by simp
 | x::r,0,_,_=>by simp
 | x::r,a+1,sz,hl=>by
  have E:=hl x (by simp);rw[List.drop_succ_cons,List.flatten_cons,En r a (fun c F=>hl c (by simp[F])),Nat.add_mul,Nat.one_mul,List.drop_append,E];rw[List.drop_eq_nil_of_le (as:=x) (by omega),List.nil_append]
  congr 1
  omega
def St.storeE(O:St S w H){k:Nat}{r:Row}(hk:H k=some r){a:Nat}{news:List (List AV)}{l:List Value}(Z:∀c∈news,c.length=r.sz)(ha:a+news.length<=r.es.length)(ah:r.es≠[]){ao:Option Addr}{n0 c0:Nat}(an:S.loc k=.slice ao n0 c0)
   (hr:bN S w news.flatten l) (h1:∀u∈l,u.oneCell'=true):
   ∃g n c w',S.loc k=.slice (some ⟨g,0,none⟩) n c/\(∀P:Program,(storeCells ⟨g,a*r.sz,none⟩ l).run P w=.ok () w') /\
     St S w' (aM H k (some { r with es:=r.es.take a++news++r.es.drop (a+news.length) }))/\Grow S w S w':=by
 have hR:=O.rows k r hk;obtain⟨g,cap,cur,I,hg,ag,am,au,ad,aa⟩:=hR.open an ah;have ac:l.length=news.length*r.sz:=by rw[iV _ _ hr,rE news Z]
 have af:(a+news.length)*r.sz<=r.es.length*r.sz:=Nat.mul_le_mul_right _ ha;have aj:r.es.length*r.sz<=cap*r.sz:=Nat.mul_le_mul_right _ ag;rw[Nat.add_mul]at af;have ab:∀P:Program,_:=fun P=>run_storeCells_at (P:=P) g (a*r.sz) r.e l 0 cur w hg (by rw[ac,au];omega) h1
 simp only[Nat.add_zero]at ab;refine⟨g,_,cap,_,I,ab,?_,?_⟩
 . have U:∀j,j≠g->(w.setRow g (List.take (a*r.sz) cur.toList++l++List.drop (a*r.sz+l.length) cur.toList).toArray).heap[j]?=w.heap[j]?:=fun j E=>setRow_other w g j _ E
   have ar:¬S.fz g:=O.free k r hk g (by rw[I];rfl);have F:iL S w (w.setRow g (List.take (a*r.sz) cur.toList++l++List.drop (a*r.sz+l.length) cur.toList).toArray):=fun j E=>U j (fun e=>ar (e▸O.ro_fz j E))
   have X:(r.es.take a++news++r.es.drop (a+news.length)).length=r.es.length:=by simp;omega
   have e2 : List.take (r.es.length * r.sz) (List.take (a * r.sz) cur.toList ++ l ++ List.drop (a * r.sz + l.length) cur.toList) =
       (cur.toList.take (r.es.length*r.sz)).take (a*r.sz)++l++(cur.toList.take (r.es.length*r.sz)).drop (a*r.sz+l.length):=by
     rw[List.take_take,Nat.min_eq_left (by omega),List.drop_take];rw[List.take_append,List.take_append];simp only[List.length_append,List.length_take,Array.length_toList];rw[Nat.min_eq_left (by omega:a*r.sz<=cur.size)];rw[List.take_of_length_le (l:=List.take (a*r.sz) cur.toList) (by simp;omega),List.take_of_length_le (l:=l) (by omega)]
   refine⟨O.ro_fz,fun j E=>by simpa using O.fz_lt j E,?_,?_,?_,O.tabs.keep S.le_refl F⟩
   . intro j r' E;by_cases e:j=k
     . subst e;rw[qL]at E;injection E with E;subst E;refine⟨hR.lt,hR.sz,hR.pos,?_,.inl ?_⟩
       . intro c Y;rcases List.mem_append.1 Y with Y|Y
         . rcases List.mem_append.1 Y with Y|Y
           . exact hR.len c (List.mem_of_mem_take Y)
           . exact Z c Y
         . exact hR.len c (List.mem_of_mem_drop Y)
       . refine⟨(List.take (a*r.sz) cur.toList++l++List.drop (a*r.sz+l.length) cur.toList).take (r.es.length*r.sz),⟨?_,.inr ⟨g,cap,_,by rw[X];exact I,Nat.zero_le _,setRow_heap w g cur _ _ _ hg,by rw[X];exact ag,am,?_,by rw[X]⟩⟩,?_,?_⟩
         . rw[X];simp only[List.length_take,List.length_append,List.length_drop,Array.length_toList];omega
         . simp only[List.size_toArray,List.length_append,List.length_take,List.length_drop,Array.length_toList];omega
         . have hx:=(eT (S.le_refl) F _ _ ad);have hy:=(eT (S.le_refl) F _ _ hr);have e1:(r.es.take a++news++r.es.drop (a+news.length)).flatten=r.es.flatten.take (a*r.sz)++news.flatten++r.es.flatten.drop (a*r.sz+l.length):=by rw[List.flatten_append,List.flatten_append,AH _ _ hR.len,En _ _ hR.len,Nat.add_mul,ac]
           rw[e1,e2];exact eG _ _ _ _ (eG _ _ _ _ (uZ _ _ _ hx) hy) (zM _ _ _ hx)
         . intro u V;rw[e2]at V;simp only[List.mem_append]at V;rcases V with(V|V)|V
           . exact aa u (List.mem_of_mem_take V)
           . exact h1 u V
           . exact aa u (List.mem_of_mem_drop V)
     . rw[aJ _ _ _ _ e]at E;exact(O.rows j r' E).keep S.le_refl F fun g' J=>U g' (fun e'=>O.disj j k r' r E hk e g' J (by rw[I,e'];rfl))
   . intro j r' E g' J;by_cases e:j=k
     . subst e;exact O.free j r hk g' J
     . rw[aJ _ _ _ _ e]at E;exact O.free j r' E g' J
   . intro j j' r1 r2 E ap ae g' J aq;have p:∀j r',aM H k (some { r with es:=r.es.take a++news++r.es.drop (a+news.length) }) j=some r'->∃ai,H j=some ai:=fun j r' E=>by
       by_cases e:j=k
       . subst e;exact⟨r,hk⟩
       . rw[aJ _ _ _ _ e]at E;exact⟨_,E⟩
     obtain⟨q1,ak⟩:=p j r1 E;obtain⟨q2,al⟩:=p j' r2 ap;exact O.disj j j' q1 q2 ak al ae g' J aq
 . refine⟨S.le_refl,fun _ h=>h,rfl,rfl,rfl,by simp,fun j E=>setRow_other w g j _ (fun e=>O.free k r hk g (by rw[I];rfl) (e▸E)),fun _ h=>.inl h⟩
def Xm{k:Nat}{r:Row}(E:H k=some r):aM H k (some r)=H:=by
 funext j;by_cases e:j=k
 ·subst e;rw[aB,E]
 ·rw[aJ _ _ _ _ e]
def St.copy(hS:St S w H){k:Nat}{r:Row}(hk:H k=some r){t e sz U:Nat}{t' ty:TypeId}(he:cM P t=some (e,sz,U))(an:r.sz=sz){a n:Nat}(Y:a+n<=r.es.length){x u:Value}{news:List (List AV)}(hu:BE S w u news)(V:dL sz news)
  (hx:∃ad cc,x=.slice ad n cc/\(0<n->∃g n' c',S.loc k=.slice (some ⟨g,0,none⟩) n' c'/\ad=some ⟨g,a*r.sz,none⟩)):
  ∃w',(Builtin.copy_ #[t,t'] ty #[x,u]).run P w=.ok (goInt (min news.length n:Nat)) w'/\St S w' (aM H k (some { r with es:=r.es.take a++news.take (min news.length n)++r.es.drop (a+min news.length n) }))/\Grow S w S w':=by
 obtain⟨av,z,ac,hi,X,au,aq,ap,hz,ar⟩:=kE he;obtain⟨ad,cc,rfl,ah⟩:=hx;obtain⟨sa,sc,l,rfl,hl,ao,I⟩:=hu;have E:=kG.1 V;rcases Nat.eq_zero_or_pos (min news.length n)with h0|h0
 ·refine⟨w,?_,?_,Grow.refl S w⟩
  ·have al:Nat.min news.length n=0:=h0;have ag:∀a:Addr,(loadCells a 0).run P w=.ok #[] w:=fun a=>by simpa using run_loadCells_list (P:=P) w a [] (by simp)
   rw[h0];cases ad <;> cases sa <;> simp[Builtin.copy_,run_underlying ac,Builtin.lenOf,Builtin.firstCells,sizeOf,typeInfo,hi,al,ag,storeCells]
  ·rw[h0];have:({ r with es:=r.es.take a++news.take 0++r.es.drop (a+0) }:Row)=r:=by simp
   rw[this,Xm hk];exact hS
 ·have ak:0<n:=by omega
  obtain⟨g,n',c',O,rfl⟩:=ah ak;have ab:r.es≠[]:=fun e=>by rw[e]at Y;simp at Y;omega
  have hm:(news.take (min news.length n)).length=min news.length n:=by simp
  have ai:(news.take (min news.length n)).flatten=news.flatten.take (min news.length n*sz):=AH _ _ E;have aj:bN S w (news.take (min news.length n)).flatten (l.take (min news.length n*sz)):=by rw[ai];exact uZ _ _ _ hl
  obtain⟨g',n2,c2,w',F,ae,q1,q2⟩:=hS.storeE hk (a:=a) (news:=news.take (min news.length n)) (l:=l.take (min news.length n*sz)) (fun c hc=>by rw[an];exact E c (List.mem_of_mem_take hc)) (by rw[hm];omega) ab O aj (fun u hu=>ao u (List.mem_of_mem_take hu));rw[O]at F;injection F with i1 _ _;injection i1 with i1;injection i1 with i1;subst i1;rw[hm]at q1;refine⟨w',?_,q1,q2⟩;rcases I with I|⟨b,o,rfl,J⟩
  ·rw[I]at h0;simp at h0
  ·have af:l.length=news.length*sz:=by rw[iV _ _ hl,rE news E]
   have am:(l.take (min news.length n*sz)).length=min news.length n*sz:=by rw[List.length_take,af];exact Nat.min_eq_left (Nat.mul_le_mul_right _ (Nat.min_le_left _ _))
   have Z:=run_loadCells_list (P:=P) w ⟨b,o,none⟩ (l.take (min news.length n*sz)) (fun j v hj=>by
    rw[Addr.add_lit];refine J j v ?_;rw[List.getElem?_take]at hj;split at hj
    ·exact hj
    ·simp at hj)
   rw[am]at Z;have aa:Nat.min news.length n=min news.length n:=rfl;simp[Builtin.copy_,run_underlying ac,Builtin.lenOf,Builtin.firstCells,sizeOf,typeInfo,hi,X,aa,Z,ae P]
def BW(z:Array Value)(E:0<z.size):∀m,(Builtin.zeroCells z m).toList=(List.replicate m z.toList).flatten
 | 0=>by simp[Builtin.zeroCells]
 | m+1=>by
  have ih:=BW z E m;rw[show List.replicate (m+1) z.toList=List.replicate m z.toList++[z.toList]from List.replicate_succ',List.flatten_append,<-ih];simp only[Builtin.zeroCells,Array.toList_map,Array.toList_range,Nat.add_mul,Nat.one_mul,List.flatten_cons,List.flatten_nil,List.append_nil];rw[List.range_add,List.map_append]
  congr 1
  apply List.ext_getElem
  ·simp
  ·intro i h1 F;simp only[List.length_map,List.length_range]at h1;simp[Nat.add_comm (m*z.size),Nat.add_mul_mod_self_right,Nat.mod_eq_of_lt h1,h1]
def St.clear(hS:St S w H){k:Nat}{r:Row}(hk:H k=some r){t e sz O:Nat}{ty:TypeId}{zs:List AV}(he:cM P t=some (e,sz,O))(ac:eI P e=some zs)(aj:r.sz=sz){a n:Nat}(V:a+n<=r.es.length){x:Value}
  (hx:∃ad cc,x=.slice ad n cc/\(0<n->∃g n' c',S.loc k=.slice (some ⟨g,0,none⟩) n' c'/\ad=some ⟨g,a*r.sz,none⟩)):
  ∃w',(Builtin.clear_ #[t] ty #[x]).run P w=.ok (.tuple #[]) w'/\St S w' (aM H k (some { r with es:=r.es.take a++List.replicate n zs++r.es.drop (a+n) }))/\Grow S w S w':=by
 obtain⟨ai,z,Z,hi,af,al,ah,ae,hz,ag⟩:=kE he;obtain⟨i',v,I,F,rfl,ak,am,h1⟩:=pS ac;rw[hi]at I;injection I with I;subst I;rw[hz]at F;injection F with F;subst F;obtain⟨ad,cc,rfl,ab⟩:=hx;rcases Nat.eq_zero_or_pos n with h0|h0
 ·subst h0;refine⟨w,?_,?_,Grow.refl S w⟩
  ·cases ad <;> simp[Builtin.clear_,run_underlying Z]
  ·have:({ r with es:=r.es.take a++List.replicate 0 (z.cells.toList.map tI)++r.es.drop (a+0) }:Row)=r:=by simp
   rw[this,Xm hk];exact hS
 ·obtain⟨g,n',c',J,rfl⟩:=ab h0;have X:r.es≠[]:=fun e=>by rw[e]at V;simp at V;omega
  have U:∀m,bN S w (List.replicate m (z.cells.toList.map tI)).flatten (List.replicate m z.cells.toList).flatten:=by
   intro m;induction m with
   | zero=>simp[bN]
   | succ m ih=>simp only[List.replicate_succ,List.flatten_cons];exact eG _ _ _ _ (oL _) ih
  obtain⟨g',n2,c2,w',E,aa,q1,q2⟩:=hS.storeE hk (a:=a) (news:=List.replicate n (z.cells.toList.map tI)) (l:=(List.replicate n z.cells.toList).flatten) (fun c hc=>by rw[List.eq_of_mem_replicate hc];simp;omega) (by rw[List.length_replicate];omega) X J (U n) (fun u hu=>by obtain⟨l,hl,hu⟩:=List.mem_flatten.1 hu;rw[List.eq_of_mem_replicate hl]at hu;exact h1 u hu);rw[J]at E;injection E with Y _ _;injection Y with Y;injection Y with Y;subst Y;rw[List.length_replicate]at q1;refine⟨w',?_,q1,q2⟩;obtain⟨m,rfl⟩:∃m,n=m+1:=⟨n-1,by omega⟩;simp[Builtin.clear_,run_underlying Z,zeroValue,typeInfo,hi,hz,BW z.cells (by omega) (m+1),aa P]
def Fc{t ty e:TypeId}{i:TypeInfo}{size n c:Nat}{v:Value}{xs:List Value}(I:P.underlying t=some (.slice e))(hi:P.info? e=some i)(E:w.ownsRow 0 e size v n xs):
  (Builtin.append_ #[t,t] ty #[v,.slice none 0 c]).run P w=.ok v w:=by
 rcases E.2 with⟨rfl,rfl⟩|⟨g,cap,cur,rfl,_,_,F,_⟩
 ·simp[Builtin.append_,run_underlying I,sizeOf,typeInfo,hi,Builtin.lenOf,Builtin.firstCells]
 ·simp[Builtin.append_,run_underlying I,sizeOf,typeInfo,hi,Builtin.lenOf,Builtin.firstCells,F,storeCells]
def St.append(V:St S w H){k:Nat}{r:Row}(hk:H k=some r){ay:Option Addr}{n0 c0:Nat}(an:S.loc k=.slice ay n0 c0){t ty:TypeId}{Y:Nat}(he:cM P t=some (r.e,r.sz,Y)){news:List (List AV)}{u:Value}(hu:BE S w u news)
   (ap:dL r.sz news) (hb:(r.es.length+news.length)*Y<=140737488355328):
   ∃I w',(Builtin.append_ #[t,t] ty #[S.loc k,u]).run P w=.ok I w'/\(∃a n c,I=.slice a n c) /\
     St (S.addRow I r.sz) w' (aM (aM H k none) S.N (some ⟨r.e,r.sz,r.es++news⟩))/\Grow S w (S.addRow I r.sz) w':=by
 have hR:=V.rows k r hk;obtain⟨a0,z,av,hi,a5,az,ai,am,hz,aw⟩:=kE he;obtain⟨xs,ho,hr,h1⟩:=hR.sl an;obtain⟨ad,c,l,rfl,hl,ar,aj⟩:=hu;have ac:=kG.1 ap;have ak:l.length=news.length*r.sz:=by rw[iV _ _ hl,rE news ac]
 have a7:r.es.length+news.length<=140737488355328:=Nat.le_trans (Nat.le_mul_of_pos_right _ am) hb;have ax : ∃ I w', (Builtin.append_ #[t, t] ty #[S.loc k, .slice ad news.length c]).run P w = .ok I w' /\ w'.ownsRow 0 r.e r.sz I (r.es.length + news.length) (xs ++ l) /\ w.grownBy w' (blk (S.loc k)) /\
     (blk I=blk (S.loc k)\/blk I=some w.heap.size):=by
   cases ad with
   | none=>
     have hn:news=[]:=by
       rcases aj with h|⟨b,o,h,_⟩
       . exact h
       . simp at h
     subst hn;have al:l=[]:=List.eq_nil_of_length_eq_zero (by rw[ak];simp);subst al;exact⟨S.loc k,w,Fc av hi ho,by simpa using ho,World.grownBy.refl w _,.inl rfl⟩
   | some a=>
     have ah:∀j x,l[j]?=some x->w.cell? (a.add j)=some x:=by
       rcases aj with h|⟨b,o,h,hc⟩
       . subst h;have al:l=[]:=List.eq_nil_of_length_eq_zero (by rw[ak];simp);subst al;simp
       . injection h with h;subst h;intro j x F;rw[Addr.add_lit];exact hc j x F
     obtain⟨I,w',q1,q2,q3,_,q5⟩:=run_append_own_at (P:=P) w 0 t ty r.e a0 z r.sz Y av hi hz a5 az aw ai (S.loc k) r.es.length xs ho a news.length c l ak ah ar
       (by simp only[maxLen];omega) hb (Nat.zero_le _)
     have au:blk (S.loc k)=(S.loc k).ownBlock:=by rw[an];exact auH _ _ _
     have a6:blk I=I.ownBlock:=by rcases q2.2 with⟨h,_⟩|⟨_,_,_,h,_⟩ <;> (rw[h];rfl)
     exact⟨I,w',q1,q2,by rw[au];exact q3,by rw[au,a6];exact q5⟩
 obtain⟨I,w',q1,q2,q3,q4⟩:=ax;have ab:=V.free k r hk;have ag:∀j,S.fz j->w'.heap[j]?=w.heap[j]?:=fun j F=>q3.block j (V.fz_lt j F) (fun e=>ab j e.symm F)
 have U:iL S w w':=V.kept ag;have O:=S.le_addRow I r.sz;have J:(S.addRow I r.sz).loc S.N=I:=by simp[Sg.addRow]
 have a4:∀g,blk I=some g->¬S.fz g:=fun g E hf=>by
   rcases q4 with e|e
   . exact ab g (e▸E) hf
   . rw[e]at E;injection E with E;subst E;exact Nat.lt_irrefl _ (V.fz_lt _ hf)
 have X:∀j r',j≠S.N->aM (aM H k none) S.N (some ⟨r.e,r.sz,r.es++news⟩) j=some r'->j≠k/\H j=some r':=fun j r' F h=>by
   rw[aJ _ _ _ _ F]at h;by_cases e:j=k
   . subst e;rw[aB]at h;simp at h
   . rw[aJ _ _ _ _ e]at h;exact⟨e,h⟩
 have ae:∀j r',j≠k->H j=some r'->∀g,blk (S.loc j)=some g->some g≠blk (S.loc k)/\g<w.heap.size:=fun j r' F Z g E=>⟨fun e=>V.disj j k r' r Z hk F g E e.symm,(V.rows j r' Z).block_lt E⟩
 have aq:∀j r',j≠k->H j=some r'->∀g,blk (S.loc j)=some g->blk I≠some g:=fun j r' F Z g E e=>by
   obtain⟨e1,e2⟩:=ae j r' F Z g E;rcases q4 with e'|e'
   . exact e1 (by rw[<-e',e])
   . rw[e']at e;injection e with e;omega
 refine⟨I,w',q1,?_,⟨V.ro_fz,fun j F=>Nat.lt_of_lt_of_le (V.fz_lt j F) q3.size,?_,?_,?_,V.tabs.keep O U⟩,⟨O,fun _ h=>h,q3.os,q3.tape,q3.output,q3.size,ag,fun _ h=>.inl h⟩⟩
 . rcases q2.2 with⟨h,_⟩|⟨g,cap,cur,h,_⟩
   . exact⟨_,_,_,h⟩
   . exact⟨_,_,_,h⟩
 . intro j r' F;by_cases e:j=S.N
   . subst e;rw[aB]at F;injection F with F;subst F;refine⟨Nat.lt_succ_self _,by simp[Sg.addRow],ai,?_,.inl ⟨xs++l,?_,?_,?_⟩⟩
     . intro cs af;rcases List.mem_append.1 af with af|af
       . exact hR.len cs af
       . exact ac cs af
     . rw[J,List.length_append];exact q2
     . rw[List.flatten_append];exact eG _ _ _ _ (eT O U _ _ hr) (eT O U _ _ hl)
     . intro x hx;rcases List.mem_append.1 hx with hx|hx
       . exact h1 x hx
       . exact ar x hx
   . obtain⟨e1,e2⟩:=X j r' e F;exact(V.rows j r' e2).keep O U fun g E=>q3.block g (ae j r' e1 e2 g E).2 (ae j r' e1 e2 g E).1
 . intro j r' F g E;by_cases e:j=S.N
   . subst e;rw[J]at E;exact a4 g E
   . obtain⟨e1,e2⟩:=X j r' e F;rw[O.loc j (V.rows j r' e2).lt]at E;exact V.free j r' e2 g E
 . intro j j' r1 r2 F Z ao g E aa;by_cases e:j=S.N
   . subst e;rw[J]at E;obtain⟨e1,e2⟩:=X j' r2 (Ne.symm ao) Z;rw[O.loc j' (V.rows j' r2 e2).lt]at aa;exact aq j' r2 e1 e2 g aa E
   . obtain⟨e1,e2⟩:=X j r1 e F;rw[O.loc j (V.rows j r1 e2).lt]at E;by_cases e':j'=S.N
     . subst e';rw[J]at aa;exact aq j r1 e1 e2 g E aa
     . obtain⟨e3,e4⟩:=X j' r2 e' Z;rw[O.loc j' (V.rows j' r2 e4).lt]at aa;exact V.disj j j' r1 r2 e2 e4 ao g E aa
def O3{es:List (List AV)}{O:Option Addr}{n:Nat}(h:rep S w (.cl es) (.slice O n n)){sz:Nat}(Z:dL sz es):
  ∃l,l.length=es.length*sz/\bN S w es.flatten l/\(∀x∈l,x.oneCell'=true)/\n=es.length/\n<=maxLen/\(es=[]\/∃b o,O=some ⟨b,o,none⟩/\∀j x,l[j]?=some x->w.cell? ⟨b,o+j,none⟩=some x):=by
 simp only[rep]at h;obtain⟨V,n',e,rfl,U,h4⟩:=h;injection e with I F J;subst I F;rcases h4 with rfl|⟨b,o,X,rfl,hb,hs,E⟩
 ·exact⟨[],by simp,by simp[bN],by simp,rfl,U,.inl rfl⟩
 ·obtain⟨l,I,F,J,Y⟩:=oI _ _ (Ap es o E);refine⟨l,?_,F,J,rfl,U,.inr ⟨b,o,rfl,Y⟩⟩;rw[iV _ _ F,rE es (kG.1 Z)]
def St.appendNew(X:St S w H){es:List (List AV)}{us:Value}(ap:rep S w (.cl es) us){t ty e:TypeId}{sz I:Nat}(he:cM P t=some (e,sz,I)){news:List (List AV)}{u:Value}(hu:BE S w u news)(aw:news≠[])
  (an:dL sz es) (ay:dL sz news) (hb:(es.length+news.length)*I<=140737488355328):
  ∃v' w',(Builtin.append_ #[t,t] ty #[us,u]).run P w=.ok v' w'/\(∃a n c,v'=.slice a n c) /\
   St (S.addRow v' sz) w' (aM H S.N (some ⟨e,sz,es++news⟩))/\Grow S w (S.addRow v' sz) w':=by
 obtain⟨ax,z,a7,hi,a4,av,ag,am,hz,ao⟩:=kE he;have aj:=ap;simp only[rep]at aj;obtain⟨ar,n0,rfl,_⟩:=aj;obtain⟨l0,ah,a9,ba,rfl,bc,au⟩:=O3 ap an;obtain⟨ad,c,l,rfl,hl,a5,a6⟩:=hu;have af:=kG.1 ay;have aq:=kG.1 an;have ak:l.length=news.length*sz:=by rw[iV _ _ hl,rE news af]
 have bd:0<news.length:=List.length_pos_iff.2 aw;have be:es.length+news.length<=140737488355328:=Nat.le_trans (Nat.le_mul_of_pos_right _ am) hb;obtain⟨b,o,rfl,hcell⟩:∃b o,ad=some ⟨b,o,none⟩/\∀j x,l[j]?=some x->w.cell? ⟨b,o+j,none⟩=some x:=by
  rcases a6 with h|h
  ·exact absurd h aw
  ·exact h
 have ac:∀j x,l[j]?=some x->w.cell? ((⟨b,o,none⟩:Addr).add j)=some x:=fun j x hj=>by rw[Addr.add_lit];exact hcell j x hj
 have a8:∃v' w',(Builtin.append_ #[t,t] ty #[.slice ar es.length es.length,.slice (some ⟨b,o,none⟩) news.length c]).run P w=.ok v' w'/\w'.ownsRow w.heap.size e sz v' (es.length+news.length) (l0++l)/\w.grownBy w' none:=by
  cases ar with
  | none=>
   have bb:es=[]:=by
    rcases au with h|⟨_,_,h,_⟩
    ·exact h
    ·cases h
   subst bb;obtain rfl:l0=[]:=List.eq_nil_of_length_eq_zero (by simpa using ah);obtain⟨v',w',q1,q2,q3,_⟩:=run_append_own (P:=P) w w.heap.size t ty e ax z sz I a7 hi hz a4 av ao ag (.slice none 0 0) 0 [] (World.ownsRow_nil w _ e sz) ⟨b,o,none⟩ news.length c l ak ac a5 (by simp only[maxLen];omega) hb (Nat.le_refl _);exact⟨v',w',q1,q2,q3⟩
  | some a0=>
   have al:∀j x,l0[j]?=some x->w.cell? (a0.add j)=some x:=by
    rcases au with h|⟨b0,o0,h,hc⟩
    ·subst h;obtain rfl:l0=[]:=List.eq_nil_of_length_eq_zero (by simpa using ah);simp
    ·injection h with h;subst h;intro j x hj;rw[Addr.add_lit];exact hc j x hj
   exact run_append_arg_grows (P:=P) w t ty e ax z sz I a7 hi hz a4 av ao ag a0 es.length es.length l0 ah al ⟨b,o,none⟩ news.length c l ak ac (by omega) (by simp only[maxLen];omega) hb
 obtain⟨v',w',q1,q2,q3⟩:=a8;obtain⟨g,cap,cur,hv,hg0,hg,hnc,hcm,aa,htk⟩:∃g cap cur,v'=.slice (some ⟨g,0,none⟩) (es.length+news.length) cap/\w.heap.size<=g/\w'.heap[g]?=some (.cells cur e (0,0))/\es.length+news.length<=cap/\cap<=maxLen/\cur.size=cap*sz/\cur.toList.take ((es.length+news.length)*sz)=l0++l:=by
  rcases q2.2 with⟨_,h⟩|⟨g,cap,cur,h1,h2,h3,h4,h5,h6,h7⟩
  ·omega
  ·exact⟨g,cap,cur,h1,h2,h3,h4,h5,h6,h7⟩
 subst hv;have ab:∀k,k<w.heap.size->w'.heap[k]?=w.heap[k]?:=fun k O=>q3.block k O (by simp)
 have U:iL S w w':=fun k O=>ab k (X.fz_lt k (X.ro_fz k O))
 have J:=S.le_addRow (.slice (some ⟨g,0,none⟩) (es.length+news.length) cap) sz;have F:(S.addRow (.slice (some ⟨g,0,none⟩) (es.length+news.length) cap) sz).loc S.N=.slice (some ⟨g,0,none⟩) (es.length+news.length) cap:=by simp[Sg.addRow]
 have Y:∀k r,k≠S.N->aM H S.N (some ⟨e,sz,es++news⟩) k=some r->H k=some r:=fun k r O h=>by rwa [aJ _ _ _ _ O]at h
 refine⟨_,w',q1,⟨_,_,_,rfl⟩,⟨X.ro_fz,fun k O=>Nat.lt_of_lt_of_le (X.fz_lt k O) q3.size,?_,?_,?_,X.tabs.keep J U⟩,⟨J,fun _ h=>h,q3.os,q3.tape,q3.output,q3.size,fun k O=>ab k (X.fz_lt k O),fun _ h=>.inl h⟩⟩
 ·intro k r O;by_cases e0:k=S.N
  ·subst e0;rw[aB]at O;injection O with O;subst O;refine⟨Nat.lt_succ_self _,by simp[Sg.addRow],ag,?_,.inl ⟨l0++l,?_,?_,?_⟩⟩
   ·intro cs aa;rcases List.mem_append.1 aa with aa|aa
    ·exact aq cs aa
    ·exact af cs aa
   ·rw[F,List.length_append];exact⟨by rw[List.length_append,ah,ak,Nat.add_mul],.inr ⟨g,cap,cur,rfl,Nat.zero_le _,hg,hnc,hcm,aa,htk⟩⟩
   ·rw[List.flatten_append];exact eG _ _ _ _ (eT J U _ _ a9) (eT J U _ _ hl)
   ·intro x hx;rcases List.mem_append.1 hx with hx|hx
    ·exact ba x hx
    ·exact a5 x hx
  ·have V:=Y k r e0 O;exact(X.rows k r V).keep J U fun g' E=>ab g' ((X.rows k r V).block_lt E)
 ·intro k r O g' E;by_cases e0:k=S.N
  ·subst e0;rw[F]at E;simp only[blk,Option.some.injEq]at E;subst E;exact fun h=>by have:=X.fz_lt _ h;omega
  ·have V:=Y k r e0 O;rw[J.loc k (X.rows k r V).lt]at E;exact X.free k r V g' E
 ·intro k k' r r' O V ai g' E Z;by_cases e0:k=S.N
  ·subst e0;rw[F]at E;simp only[blk,Option.some.injEq]at E;subst E;have ae:=Y k' r' (Ne.symm ai) V;rw[J.loc k' (X.rows k' r' ae).lt]at Z;have:=(X.rows k' r' ae).block_lt Z;omega
  ·have ae:=Y k r e0 O;rw[J.loc k (X.rows k r ae).lt]at E;by_cases e1:k'=S.N
   ·subst e1;rw[F]at Z;simp only[blk,Option.some.injEq]at Z;subst Z;have:=(X.rows k r ae).block_lt E;omega
   ·have az:=Y k' r' e1 V;rw[J.loc k' (X.rows k' r' az).lt]at Z;exact X.disj k k' r r' ae az ai g' E Z
end
end Go.Aw
end
section
namespace Go.Aw
open Go.RowKit
mutual
inductive Conv (H:aH):AV->AV->Prop
 | refl (x:AV):Conv H x x
 | any (x:AV):Conv H x .any
 | row (k:Nat) (r:Row) (es:List (List AV)):H k=some r->ConvE H r.es es->Conv H (.os k) (.sl es)
 | sl (es es':List (List AV)):ConvE H es es'->Conv H (.sl es) (.sl es')
 | agg (cs cs':List AV):ConvL H cs cs'->Conv H (.agg cs) (.agg cs')
 | tup (cs cs':List AV):ConvL H cs cs'->Conv H (.tup cs) (.tup cs')
 | ptr (k i f:Nat) (r:Row) (cs:List AV):H k=some r->i<r.es.length->ConvL H (r.es.getD i []) cs->Conv H (.op k i f) (.rp cs f)
 | fn (f:FuncId) (cap cap':List AV):ConvL H cap cap'->Conv H (.fn f cap) (.fn f cap')
inductive ConvL (H:aH):List AV->List AV->Prop
 | nil:ConvL H [] []
 | cons (x y:AV) (r s:List AV):Conv H x y->ConvL H r s->ConvL H (x::r) (y::s)
inductive ConvE (H:aH):List (List AV)->List (List AV)->Prop
 | nil:ConvE H [] []
 | cons (x y:List AV) (r s:List (List AV)):ConvL H x y->ConvE H r s->ConvE H (x::r) (y::s)
end
def ConvL.refl{H:aH}:∀l,ConvL H l l
 | []=>.nil
 | x::r=>.cons x x r r (.refl x) (ConvL.refl r)
def ConvE.refl{H:aH}:∀l,ConvE H l l
 | []=>.nil
 | x::r=>.cons x x r r (ConvL.refl x) (ConvE.refl r)
def Sg.froze(S:Sg)(H:aH):Sg:=
 { S with ro:=fun g=>S.ro g\/∃k r,H k=some r/\blk (S.loc k)=some g,fz:=fun g=>S.fz g\/∃k r,H k=some r/\blk (S.loc k)=some g }
def Sg.le_froze(S:Sg)(H:aH):S.le (S.froze H):=⟨fun _ h=>.inl h,Nat.le_refl _,fun _ _=>rfl,fun _ _=>rfl⟩
section
variable{S:Sg}{w:World}{H:aH}
def ConvE.len:∀{es es':List (List AV)},ConvE H es es'->es'.length=es.length
 | _,_,.nil=>rfl
 | _,_,.cons _ _ _ _ _ h=>by simp[ConvE.len h]
mutual
def Conv.rep(J:St S w H):∀{x y:AV} {u:Value},Conv H x y->rep S w x u->Aw.rep (S.froze H) w y u
 | _,_,_,.refl x,h=>nO (S.le_froze H) (iL.refl S w) _ _ h
 | _,_,_,.any x,_=>by simp only[Aw.rep]
 | _,_,u,.row k r es hk I,h=>by
  simp only[Aw.rep]at h |-;obtain⟨_,rfl,_,_,_,O⟩:=h;have U:=J.rows k r hk;obtain⟨xs,ho,hr,h1⟩:=U.sl O;rcases ho.2 with⟨Z,hn⟩|⟨g,cap,cur,Z,_,h2,h3,Y,h5⟩
  ·have h0:=List.eq_nil_of_length_eq_zero hn;refine⟨none,0,0,Z,by rw[I.len,hn],Nat.le_refl _,Nat.zero_le _,.inl ?_⟩;exact List.eq_nil_of_length_eq_zero (by rw[I.len,hn])
  ·refine⟨_,_,cap,Z,I.len,h3,Y,.inr ⟨g,0,r.sz,rfl,.inr ⟨k,r,hk,by rw[Z];rfl⟩,U.pos,?_⟩⟩;refine ConvE.rep J I ?_;refine sY _ _ U.len (kT _ xs 0 hr h1 fun j u hu=>?_);have:=ho.cells (g:=g) (by rw[Z];rfl) j u hu
   rwa [Addr.add_lit]at this
 | _,_,_,.sl es es' I,h=>by
  simp only[Aw.rep]at h |-;obtain⟨ad,n,c,rfl,h1,h2,h3,Y⟩:=h;refine⟨ad,n,c,rfl,by rw[I.len,h1],h2,h3,?_⟩;rcases Y with Y|⟨b,o,sz,rfl,hb,hs,X⟩
  ·exact .inl (List.eq_nil_of_length_eq_zero (by rw[I.len,Y];rfl))
  ·exact .inr ⟨b,o,sz,rfl,.inl hb,hs,ConvE.rep J I X⟩
 | _,_,_,.agg cs cs' hc,h=>by simp only[Aw.rep]at h |-;obtain⟨l,rfl,h1,h2⟩:=h;exact⟨l,rfl,ConvL.rep J hc h1,h2⟩
 | _,_,_,.tup cs cs' hc,h=>by simp only[Aw.rep]at h |-;obtain⟨l,rfl,h1⟩:=h;exact⟨l,rfl,ConvL.rep J hc h1⟩
 | _,_,_,.ptr k i f r cs hk hi hc,h=>by
  simp only[Aw.rep]at h |-;obtain⟨_,g,n,c,F,rfl⟩:=h;have U:=J.rows k r hk;have aa:r.es≠[]:=fun e=>by rw[e]at hi;simp at hi
  obtain⟨g',n',c',E,I,_⟩:=U.els F aa;rw[F]at E;injection E with V e2 e3;injection V with V;injection V with V;subst V;obtain⟨e4,e5⟩:=vD _ 0 i I hi;rw[Nat.zero_add,U.sz]at e5;exact⟨g,i*S.sz k,rfl,.inr ⟨k,r,hk,by rw[F];rfl⟩,(ConvL.cells J hc e5).1⟩
 | _,_,_,.fn f cap cap' hc,h=>by simp only[Aw.rep]at h |-;obtain⟨l,rfl,h1⟩:=h;exact⟨l,rfl,ConvL.rep J hc h1⟩
def ConvL.rep(E:St S w H):∀{x y:List AV} {l:List Value},ConvL H x y->bN S w x l->bN (S.froze H) w y l
 | _,_,_,.nil,h=>h
 | _,_,_,.cons x y r s hx hr,h=>by simp only[bN]at h |-;obtain⟨u,t,rfl,h1,F⟩:=h;exact⟨u,t,rfl,Conv.rep E hx h1,ConvL.rep E hr F⟩
def ConvL.cells(E:St S w H){b:Nat}:∀{x y:List AV} {o:Nat},ConvL H x y->dP S w b o x->dP (S.froze H) w b o y/\y.length=x.length
 | _,_,_,.nil,_=>⟨trivial,rfl⟩
 | _,_,o,.cons x y r s hx hr,h=>by simp only[dP]at h |-;obtain⟨⟨u,h1,I,U⟩,J⟩:=h;obtain⟨F,O⟩:=ConvL.cells E hr J;exact⟨⟨⟨u,h1,I,Conv.rep E hx U⟩,F⟩,by simp[O]⟩
def ConvE.rep(E:St S w H){b sz:Nat}:∀{x y:List (List AV)} {o:Nat},ConvE H x y->jE S w b sz o x->jE (S.froze H) w b sz o y
 | _,_,_,.nil,_=>trivial
 | _,_,o,.cons x y r s hx hr,h=>by simp only[jE]at h |-;obtain⟨h1,I,O⟩:=h;obtain⟨F,J⟩:=ConvL.cells E hx I;exact⟨by rw[J,h1],F,ConvE.rep E hr O⟩
end
end
mutual
def fv:AV->Option Value
 | .v x=>some x
 | .tup vs=>(fvL vs).map fun l=>.tuple l.toArray
 | .agg vs=>(fvL vs).map fun l=>.agg l.toArray
 | _=>none
def fvL:List AV->Option (List Value)
 | []=>some []
 | x::r=>match fv x,fvL r with
   | some u,some l=>some (u::l)
   | _,_=>none
end
mutual
def UW{S:Sg}{w:World}:∀{x:AV} {u v:Value},fv x=some v->rep S w x u->u=v
 | .v x,u,v,h,hr=>by simp only[fv]at h;injection h with h;subst h;simpa only[rep]using hr
 | .tup vs,u,v,h,hr=>by
  simp only[fv]at h;cases E:fvL vs with
  | none=>simp[E]at h
  | some l=>simp[E]at h;subst h;simp only[rep]at hr;obtain⟨l',rfl,h1⟩:=hr;rw[N1 E h1]
 | .agg vs,u,v,h,hr=>by
  simp only[fv]at h;cases E:fvL vs with
  | none=>simp[E]at h
  | some l=>simp[E]at h;subst h;simp only[rep]at hr;obtain⟨l',rfl,h1,_⟩:=hr;rw[N1 E h1]
 | .any,_,_,h,_=>by simp[fv]at h
 | .sl _,_,_,h,_=>by simp[fv]at h
 | .rp _ _,_,_,h,_=>by simp[fv]at h
 | .os _,_,_,h,_=>by simp[fv]at h
 | .op _ _ _,_,_,h,_=>by simp[fv]at h
 | .gd _ _,_,_,h,_=>by simp[fv]at h
 | .fn _ _,_,_,h,_=>by simp[fv]at h
 | .nf _,_,_,h,_=>by simp[fv]at h
 | .oz _ _ _,_,_,h,_=>by simp[fv]at h
 | .cl _,_,_,h,_=>by simp[fv]at h
def N1{S:Sg}{w:World}:∀{x:List AV} {u v:List Value},fvL x=some v->bN S w x u->u=v
 | [],u,v,h,hr=>by simp only[fvL]at h;injection h with h;subst h;simpa only[bN]using hr
 | x::r,u,v,h,hr=>by
  simp only[fvL]at h;cases h1:fv x with
  | none=>simp[h1]at h
  | some a=>
   cases E:fvL r with
   | none=>simp[h1,E]at h
   | some l=>simp[h1,E]at h;subst h;simp only[bN]at hr;obtain⟨J,t,rfl,F,I⟩:=hr;rw[UW h1 F,N1 E I]
end
mutual
def aeF{S I:Sg}{w J:World}:∀{x:AV} {u v:Value},fv x=some v->rep S w x u->rep I J x u
 | .v x,u,v,h,hr=>by simpa only[rep]using hr
 | .tup vs,u,v,h,hr=>by
  simp only[fv]at h;cases E:fvL vs with
  | none=>simp[E]at h
  | some l=>simp only[rep]at hr |-;obtain⟨l',rfl,h1⟩:=hr;exact⟨l',rfl,Pc E h1⟩
 | .agg vs,u,v,h,hr=>by
  simp only[fv]at h;cases E:fvL vs with
  | none=>simp[E]at h
  | some l=>simp only[rep]at hr |-;obtain⟨l',rfl,h1,F⟩:=hr;exact⟨l',rfl,Pc E h1,F⟩
 | .any,_,_,h,_=>by simp[fv]at h
 | .sl _,_,_,h,_=>by simp[fv]at h
 | .rp _ _,_,_,h,_=>by simp[fv]at h
 | .os _,_,_,h,_=>by simp[fv]at h
 | .op _ _ _,_,_,h,_=>by simp[fv]at h
 | .gd _ _,_,_,h,_=>by simp[fv]at h
 | .fn _ _,_,_,h,_=>by simp[fv]at h
 | .nf _,_,_,h,_=>by simp[fv]at h
 | .oz _ _ _,_,_,h,_=>by simp[fv]at h
 | .cl _,_,_,h,_=>by simp[fv]at h
def Pc{S I:Sg}{w J:World}:∀{x:List AV} {u v:List Value},fvL x=some v->bN S w x u->bN I J x u
 | [],u,v,h,hr=>by simpa only[bN]using hr
 | x::r,u,v,h,hr=>by
  simp only[fvL]at h;cases h1:fv x with
  | none=>simp[h1]at h
  | some a=>
   cases E:fvL r with
   | none=>simp[h1,E]at h
   | some l=>simp only[bN]at hr |-;obtain⟨U,t,rfl,F,O⟩:=hr;exact⟨U,t,rfl,aeF h1 F,Pc E O⟩
end
def atA(S:Sg)(w:World)(H:aH)(R:AV->aH->Prop)(e:Ending)(w':World):Prop:=
 ∃v r H' S',e=.returned v/\R r H'/\St S' w' H'/\rep S' w' r v/\Grow S w S' w'/\gV S.N H H'
def bM(P:Program)(f:FuncId)(args:List AV)(H:aH)(R:AV->aH->Prop):Prop:=
 ∀S w (vals:List Value),St S w H->bN S w args vals->Calls P f vals.toArray w (atA S w H R)
def bQ:aH:=fun _=>none
def RC(P:Program)(f:FuncId)(args:List AV)(R:AV->aH->Prop):Prop:=
 ∀S w (vals:List Value),St S w bQ->(∀k,k<w.heap.size->S.fz k)->bN S w args vals->Calls P f vals.toArray w (atA S w bQ R)
def PC(P:Program)(f:FuncId)(args:List AV)(r:AV):Prop:=RC P f args fun x _=>x=r
def NC(P:Program)(f:FuncId)(args:List AV)(row:Row)(mk:Nat->AV):Prop:=RC P f args fun x H'=>∃k,x=mk k/\H' k=some row
def DK(P:Program)(f:FuncId)(args:List AV)(H:aH)(r:AV):Prop:=∃args',ConvL H args args'/\PC P f args' r/\(fv r).isSome=true
def fB(P:Program)(f:FuncId)(args:List AV)(H:aH)(r:AV):Prop:=DK P f args H r\/∃x,r=.nf x/\PC P f args x
def Qc{q:Bool}{r:AV}{K:AV->Prop}(h:(fv r).isSome=true):nfq q r K=K r:=by cases q <;> cases r <;> first|rfl|(simp[fv]at h)
def QY{q:Bool}{r:AV}{K:AV->Prop}(h:nfq q r K):∃z,K z:=by
 unfold nfq at h;split at h
 ·exact h.elim
 ·exact⟨_,h⟩
 ·exact⟨_,h⟩
section
variable{P:Program}{f:FuncId}{args:List AV}{H:aH}{R K:AV->aH->Prop}
def RC.mono(h:RC P f args R)(I:∀r H',R r H'->K r H'):RC P f args K:=fun S w vals O F U=>(h S w vals O F U).mono fun _ _ ⟨v,r,H',S',h1,E,J⟩=>⟨v,r,H',S',h1,I r H' E,J⟩
def St.drop{S:Sg}{w:World}{H':aH}(h:St S w H)(F:∀k r,H' k=some r->H k=some r):St S w H':=
 ⟨h.ro_fz,h.fz_lt,fun k r E=>h.rows k r (F k r E),fun k r E=>h.free k r (F k r E),fun k k' r r' E I=>h.disj k k' r r' (F k r E) (F k' r' I),h.tabs⟩
def RC.conv{r:AV}(h:RC P f args fun x H'=>Conv H' x r):PC P f args r:=fun S w vals X Z Y=>
 (h S w vals X Z Y).mono fun e w' ⟨v,x,H',S',V,O,F,hv,J,hn⟩=>by
  refine⟨v,r,bQ,S'.froze H',V,rfl,⟨?_,?_,fun k r I=>by simp[bQ]at I,fun k r I=>by simp[bQ]at I,fun k k' r r' I=>by simp[bQ]at I,F.tabs.keep (S'.le_froze H') (iL.refl S' w')⟩,O.rep F hv,?_,fun _ _ _=>rfl⟩
  ·rintro g (E|E)
   ·exact .inl (F.ro_fz g E)
   ·exact .inr E
  ·rintro g (E|⟨k,row,I,E⟩)
   ·exact F.fz_lt g E
   ·exact(F.rows k row I).block_lt E
  ·refine⟨Sg.le_trans J.le (S'.le_froze H'),fun k I=>.inl (J.fz k I),J.os,J.tape,J.output,J.size,J.same,?_⟩;rintro g (E|⟨k,row,I,E⟩)
   ·exact J.newro g E
   ·exact .inr fun U=>F.free k row I g E (J.fz g U)
def merge(H H':aH):aH:=fun k=>match H' k with|some r=>some r|none=>H k
def RC.frame(h:RC P f args R)(hK:∀r H',R r H'->(∀k row,H' k=some row->H k=none)->∃aa,K r aa/\(∀k row,aa k=some row->merge H H' k=some row)/\∀k,H k=none->H' k=none->aa k=none):
  bM P f args H K:=by
 intro S w vals I ha
 let S0:Sg:={ S with fz:=fun k=>k<w.heap.size }
 have an:S.le S0:=⟨fun _ h=>h,Nat.le_refl _,fun _ _=>rfl,fun _ _=>rfl⟩;have ar:St S0 w bQ:=⟨fun k E=>I.fz_lt k (I.ro_fz k E),fun _ h=>h,fun k r E=>by simp[bQ]at E,fun k r E=>by simp[bQ]at E,fun k k' r r' E=>by simp[bQ]at E,I.tabs⟩;refine(h S0 w vals ar (fun _ h=>h) (eT an (iL.refl S w) _ _ ha)).mono fun e w' ⟨v,x,H',S',he,hx,J,hv,Y,hn⟩=>?_
 have am:∀k row,H' k=some row->S.N<=k:=fun k row E=>by
  rcases Nat.lt_or_ge k S.N with aj|af
  ·rw[hn k aj rfl]at E;simp at E
  ·exact af
 have ai:∀k row,H' k=some row->H k=none:=fun k row E=>by
  cases hH:H k with
  | none=>rfl
  | some r=>have:=(I.rows k r hH).lt;have:=am k row E;omega
 obtain⟨aa,aq,ap,au⟩:=hK x H' hx ai
 let S'':Sg:={ S' with fz:=fun k=>S.fz k\/(S'.fz k/\w.heap.size<=k)\/S'.ro k }
 have ab:S'.le S'':=⟨fun _ h=>h,Nat.le_refl _,fun _ _=>rfl,fun _ _=>rfl⟩;have ak:∀k,k<S.N->S'.loc k=S.loc k:=Y.le.loc;have ae:S.le S'':=⟨fun k E=>Y.le.ro k E,Y.le.N,Y.le.loc,Y.le.sz⟩;have V:∀k,k<w.heap.size->w'.heap[k]?=w.heap[k]?:=Y.same;have ah:iL S w w':=fun k E=>V k (I.fz_lt k (I.ro_fz k E))
 have ag:∀k r,H k=some r->RowOK S'' w' k r:=fun k r E=>(I.rows k r E).keep ae ah fun g F=>V g ((I.rows k r E).block_lt F)
 have ac:∀k r,H' k=some r->RowOK S'' w' k r:=fun k r E=>(J.rows k r E).keep ab (iL.refl S' w') fun _ _=>rfl
 have O:∀k r,H k=some r->∀g,blk (S''.loc k)=some g->blk (S.loc k)=some g/\g<w.heap.size:=fun k r E g F=>by have h1:S''.loc k=S.loc k:=ak k (I.rows k r E).lt;rw[h1]at F;exact⟨F,(I.rows k r E).block_lt F⟩
 have U:∀k r,H' k=some r->∀g,blk (S''.loc k)=some g->¬S'.fz g/\w.heap.size<=g:=fun k r E g F=>by
  have h1:=J.free k r E g F;refine⟨h1,?_⟩;rcases Nat.lt_or_ge g w.heap.size with aj|af
  ·exact absurd (Y.fz g aj) h1
  ·exact af
 have CV:∀k r,merge H H' k=some r->H' k=some r\/(H k=some r/\H' k=none):=fun k r E=>by
  unfold merge at E;cases h':H' k with
  | none=>rw[h']at E;exact .inr ⟨E,rfl⟩
  | some r'=>rw[h']at E;exact .inl E
 have hM:St S'' w' (merge H H'):=by
  refine⟨fun k E=>.inr (.inr E),?_,?_,?_,?_,J.tabs⟩
  ·rintro k (E|E|E)
   ·exact Nat.lt_of_lt_of_le (I.fz_lt k E) Y.size
   ·exact J.fz_lt k E.1
   ·exact J.fz_lt k (J.ro_fz k E)
  ·intro k r E;rcases CV k r E with h'|⟨h',_⟩
   ·exact ac k r h'
   ·exact ag k r h'
  ·intro k r E g F Z;rcases CV k r E with h'|⟨h',_⟩
   ·obtain⟨e1,e2⟩:=U k r h' g F;rcases Z with Z|Z|Z
    ·have:=I.fz_lt g Z;omega
    ·exact e1 Z.1
    ·exact e1 (J.ro_fz g Z)
   ·obtain⟨e1,e2⟩:=O k r h' g F;rcases Z with Z|Z|Z
    ·exact I.free k r h' g e1 Z
    ·omega
    ·rcases Y.newro g Z with X|X
     ·exact I.free k r h' g e1 (I.ro_fz g X)
     ·exact X e2
  ·intro k k' r r' E al ao g F ad;rcases CV k r E with h1|⟨h1,_⟩
   ·rcases CV k' r' al with X|⟨X,_⟩
    ·exact J.disj k k' r r' h1 X ao g F ad
    ·have:=(U k r h1 g F).2;have:=(O k' r' X g ad).2;omega
   ·rcases CV k' r' al with X|⟨X,_⟩
    ·have:=(O k r h1 g F).2;have:=(U k' r' X g ad).2;omega
    ·exact I.disj k k' r r' h1 X ao g (O k r h1 g F).1 (O k' r' X g ad).1
 refine⟨v,x,aa,S'',he,aq,hM.drop ap,nO ab (iL.refl S' w') _ _ hv,⟨ae,fun _ h=>.inl h,Y.os,Y.tape,Y.output,Y.size,fun k E=>V k (I.fz_lt k E),fun k E=>(Y.newro k E).imp id (fun X h3=>X (I.fz_lt k h3))⟩,?_⟩
 ·intro k E h0;exact au k h0 (hn k E rfl)
def PC.use{r:AV}(h:PC P f args r)(J:K r H):bM P f args H K:=
 RC.frame h fun x H' F I=>⟨H,F▸J,fun k row E=>by
  unfold merge;cases O:H' k with
  | none=>exact E
  | some r'=>rw[I k r' O]at E;simp at E,fun _ h _=>h⟩
def NC.use{row:Row}{J:Nat->AV}(h:NC P f args row J)(V:∀k,H k=none->K (J k) (aM H k (some row))):bM P f args H K:=
 RC.frame h fun x H' ⟨k,O,F⟩ I=>⟨aM H k (some row),O▸V k (I k row F),fun j r E=>by
  unfold merge;by_cases e:j=k
  ·subst e;rw[aB]at E;rw[F];exact E
  ·rw[aJ _ _ _ _ e]at E;cases U:H' j with
   | none=>exact E
   | some r'=>rw[I j r' U]at E;simp at E,fun j h0 h1=>by
  by_cases e:j=k
  ·subst e;rw[F]at h1;simp at h1
  ·rw[aJ _ _ _ _ e];exact h0⟩
def DK.val{r:AV}(h:DK P f args H r):∃v,fv r=some v:=by obtain⟨_,_,_,E⟩:=h;exact Option.isSome_iff_exists.1 E
def DK.calls{r:AV}(h:DK P f args H r){v:Value}(Z:fv r=some v){S:Sg}{w:World}{vals:List Value}(U:St S w H)(ha:bN S w args vals):
  (∀S2 w2,rep S2 w2 r v)/\Calls P f vals.toArray w fun e w'=>e=.returned v/\w'.os=w.os/\w'.tape=w.tape/\w'.output=w.output/\w.heap.size<=w'.heap.size/\∀k,k<w.heap.size->w'.heap[k]?=w.heap[k]?:=by
 obtain⟨args',hc,hp,hf⟩:=h
 let S0:Sg:={ S.froze H with fz:=fun k=>k<w.heap.size }
 have J:(S.froze H).le S0:=⟨fun _ h=>h,Nat.le_refl _,fun _ _=>rfl,fun _ _=>rfl⟩;have X:St S0 w bQ:=⟨fun k F=>by
  rcases F with F|⟨j,r,hj,O⟩
  ·exact U.fz_lt k (U.ro_fz k F)
  ·exact(U.rows j r hj).block_lt O,fun _ h=>h,fun k r F=>by simp[bQ]at F,fun k r F=>by simp[bQ]at F,fun k k' r r' F=>by simp[bQ]at F,(U.tabs.keep (S.le_froze H) (iL.refl S w)).keep J (iL.refl _ w)⟩
 have E:=hp S0 w vals X (fun _ h=>h) (eT J (iL.refl _ w) _ _ (hc.rep U ha));refine⟨fun S2 w2=>?_,E.mono fun e w' ⟨v',x,H',S',he,V,Y,I,O,hn⟩=>?_⟩
 ·obtain⟨e,w',fr,⟨v',x,H',S',he,V,Y,I,_⟩,_⟩:=E [];subst V;have:=UW Z I;subst this;exact aeF Z I
 ·subst V;have:=UW Z I;subst this;exact⟨he,O.os,O.tape,O.output,O.size,O.same⟩
def St.after{S:Sg}{w w':World}(E:St S w H)(O:w.heap.size<=w'.heap.size)(F:∀k,k<w.heap.size->w'.heap[k]?=w.heap[k]?):St S w' H:=
 ⟨E.ro_fz,fun k h=>Nat.lt_of_lt_of_le (E.fz_lt k h) O,fun k r h=>(E.rows k r h).keep S.le_refl (fun j I=>F j (E.fz_lt j (E.ro_fz j I))) fun g J=>F g ((E.rows k r h).block_lt J),E.free,E.disj,E.tabs.keep S.le_refl (fun j I=>F j (E.fz_lt j (E.ro_fz j I)))⟩
def St.grow{S:Sg}{w w':World}(J:St S w H)(O:w'.os=w.os)(E:w'.tape=w.tape)(F:w'.output=w.output)(U:w.heap.size<=w'.heap.size)(I:∀k,k<w.heap.size->w'.heap[k]?=w.heap[k]?):Grow S w S w':=
 ⟨S.le_refl,fun _ h=>h,O,E,F,U,fun k h=>I k (J.fz_lt k h),fun _ h=>.inl h⟩
def DK.use{r:AV}(h:DK P f args H r)(Z:K r H):bM P f args H K:=by
 intro S w vals F ha;obtain⟨v,E⟩:=h.val;obtain⟨hv,Y⟩:=h.calls E F ha;refine Y.mono fun e w' ⟨U,V,X,O,J,I⟩=>⟨v,r,H,S,U,Z,F.after J I,?_,F.grow V X O J I,gV.refl _ _⟩
 exact hv S w'
end
end Go.Aw
end
section
namespace Go.Aw
open Go.RowKit
def Rel(n:Nat)(S0:Sg)(w0:World)(H0:aH)(ρ:Env)(H:aH)(a:Act)(w:World):Prop:=
 ∃S,St S w H/\FR S w ρ a/\Grow S0 w0 S w/\gV S0.N H0 H/\a.defers=[]/\a.tmps.size=n
def atO(n:Nat):Option Nat->Bool
 | some d=>decide (d<n)
 | none=>true
def mB(n:Nat)(o:Oper):Bool:=o.op.operands.all (opB n)&&atO n o.dst
section
variable{P:Program}{n:Nat}{S0:Sg}{w0:World}{H0:aH}{mt:Nat->Bool}{ops:Array Oper}
def AU{o:Oper}(h:mB n o=true):(∀x∈o.op.operands,opB n x=true)/\atO n o.dst=true:=by simp only[mB,Bool.and_eq_true]at h;exact⟨fun x E=>Array.all_eq_true_iff_forall_mem.1 h.1 x E,h.2⟩
def Bw(a:Act)(d:Option Nat)(v:Value):(a.put d v).tmps.size=a.tmps.size:=by cases d <;> simp[Act.put]
def rW(a:Act)(d:Option Nat)(v:Value):(a.put d v).defers=a.defers:=by cases d <;> simp[Act.put]
def zZ{S:Sg}{w:World}{ρ:Env}{a:Act}{o:Oper}{K:Option Bool->Prop}(O:∀o∈ops,mB n o=true)(Z:FR S w ρ a)(hn:a.tmps.size=n)(h:dD ops ρ o.guard K):
  ∃G,K G/\(Region.wanted o (yielded ops a.tmps)=true↔gt G):=by
 unfold dD at h;unfold Region.wanted;cases Y:o.guard with
 | none=>rw[Y]at h;exact⟨none,h,by simp[gt]⟩
 | some jw=>
  obtain⟨j,E⟩:=jw;rw[Y]at h;simp only at h;cases J:(ops[j]?).bind (·.dst)with
  | none=>rw[J]at h;exact h.elim
  | some t=>
   rw[J]at h;simp only at h;have X:t<a.tmps.size:=by
    cases V:ops[j]? with
    | none=>simp[V]at J
    | some oj=>simp[V]at J;have:=(AU (O oj (Array.mem_of_getElem? V))).2;rw[J]at this;simpa[atO,hn]using this
   have I:yielded ops a.tmps j=match a.tmps.getD t undef with| .bool b=>some b|_=>none:=by
    unfold yielded;rw[J];have e:a.tmps.getD t undef=a.tmps[t]:=by simp[Array.getD,X]
    rw[e];simp only[Option.bind_some,Array.getElem?_eq_getElem X];cases a.tmps[t] <;> rfl
   have F:=Z t X;split at h
   ·rename_i b U;rw[U]at F;simp only[rep]at F;rw[F]at I;refine⟨_,h,?_⟩;simp only[I,gt];cases b <;> cases E <;> simp
   ·rename_i g b U;rw[U]at F;simp only[rep]at F;refine⟨_,h,?_⟩;cases g with
    | true=>rw[F.1 rfl]at I;simp only[I,gt];cases b <;> cases E <;> simp
    | false=>rw[F.2 rfl]at I;simp[undef]at I;simp[I,gt]
   ·exact h.elim
def fY{S:Sg}{w:World}{G:Option Bool}{z:AV}(h:¬gt G):rep S w (wr G z) undef:=by
 cases G with
 | none=>exact absurd trivial h
 | some b=>
  have:b=false:=by simpa[gt]using h
  subst this;simp[wr,rep]
def gN{S:Sg}{w:World}{G:Option Bool}{z:AV}{v:Value}(h:gt G)(E:rep S w z v):rep S w (wr G z) v:=by
 cases G with
 | none=>exact E
 | some b=>have:b=true:=h;subst this;simpa[wr,rep]using E
end
section
variable{P:Program}{n:Nat}{S0:Sg}{w0:World}{H0:aH}{mt:Nat->Bool}{ops:Array Oper}{K:Env->aH->Prop}{K':Act->World->Prop}{Q':Exit->Act->World->Prop}{ρ:Env}{H:aH}{a:Act}{w:World}{o:Oper}{S:Sg}
def A9(P:Program)(ops:Array Oper)(o:Oper)(a:Act)(w:World)(K':Act->World->Prop)(Q':Exit->Act->World->Prop):Prop:=
 (Region.wanted o (yielded ops a.tmps)=true->o.wp P a w K' Q')/\(Region.wanted o (yielded ops a.tmps)=false->K' (a.put o.dst undef) w)
def fR{v:Value}{w':World}(h:(execOp a.eval o).run P w=.ok (.value v) w')(E:K' (a.put o.dst v) w'):o.wp P a w K' Q':=by unfold Oper.wp;rw[h];exact E
def Rel.step(U:St S w H)(V:FR S w ρ a)(J:Grow S0 w0 S w)(Y:gV S0.N H0 H)(O:a.defers=[])(X:a.tmps.size=n){S':Sg}{w':World}{H':aH}{z:AV}{v:Value}{d:Option Nat}
  (I:St S' w' H') (E:Grow S w S' w') (F:gV S.N H H') (Z:rep S' w' z v):Rel n S0 w0 H0 (upd ρ d z) H' (a.put d v) w':=
 ⟨S',I,FR.put (V.keep E.le (E.kept U)) Z,J.trans E,Y.trans F J.le.N,by rw[rW];exact O,by rw[Bw];exact X⟩
def uY(J:St S w H)(U:FR S w ρ a)(Z:Grow S0 w0 S w)(Y:gV S0.N H0 H)(X:a.defers=[])(V:a.tmps.size=n)(hb:∀x∈o.op.operands,opB n x=true){G:Option Bool}
  (F:Region.wanted o (yielded ops a.tmps)=true↔gt G) (hK:∀I H' a' w',K I H'->Rel n S0 w0 H0 I H' a' w'->K' a' w') (h:jN P G ρ H o.op fun x=>K (upd ρ o.dst (wr G x)) H):
  A9 P ops o a w K' Q':=by
 obtain⟨z,hz,hg⟩:=GA (V▸hb) U J.rows h;refine⟨fun O=>?_,fun O=>?_⟩
 ·have E:=F.1 O;obtain⟨v,hv,hr⟩:=hg E;exact fR (hr w (Agree.refl S H w) o rfl) (hK _ _ _ _ hz (Rel.step J U Z Y X V J (Grow.refl S w) (gV.refl _ _) (gN E hv)))
 ·have E:¬gt G:=fun h=>by rw[F.2 h]at O;simp at O
  exact hK _ _ _ _ hz (Rel.step J U Z Y X V J (Grow.refl S w) (gV.refl _ _) (fY E))
def qU(F:St S w H){r:Option Row}:gV S.N H (aM H S.N r):=fun k E h=>by rw[aJ _ _ _ _ (Nat.ne_of_lt E)];exact h
def anA(t:TypeId)(v:Value)(w:World):(Instr.box t v).run P w=.ok (.pointer (some ⟨w.heap.size,0,none⟩)) (w.alloc (.cells v.cells t)):=by simp[Instr.box,newVar,newRow]
def YM{t:TypeId}{z:List AV}(h:eI P t=some z)(F:Value)(w:World):∃(v:Value) (i:TypeInfo),P.info? t=some i/\z=v.cells.toList.map tI/\(∀u∈v.cells.toList,u.oneCell'=true)/\v.cells.size≠0 /\
  (Instr.alloc t true F).run P w=.ok (.pointer (some ⟨w.heap.size,0,none⟩)) (w.alloc (.cells v.cells t)):=by
 obtain⟨i,v,hi,O,E,J,I,h1⟩:=pS h;refine⟨v,i,hi,E,h1,by rw[J];exact I,?_⟩;simp[Instr.alloc,zeroValue,typeInfo,hi,O,newVar,newRow]
def Ft(J:St S w H){t:TypeId}{cs:List AV}{l:List Value}(E:0<cs.length)(I:bN S w cs l)(h1:∀u∈l,u.oneCell'=true):
  ∃S',St S' (w.alloc (.cells l.toArray t)) (aM H S.N (some ⟨t,cs.length,[cs]⟩))/\Grow S w S' (w.alloc (.cells l.toArray t))/\rep S' (w.alloc (.cells l.toArray t)) (.op S.N 0 0) (.pointer (some ⟨w.heap.size,0,none⟩)):=by
 have F:=iV _ _ I;have:=J.newRow (e:=t) (sz:=cs.length) (cap:=1) (es:=[cs]) (xs:=l) (cur:=l.toArray) E (by simp) (by simpa using I) h1 (by simp) (by simp[maxLen]) (by simp[F]) (by simp[<-F]) (w':=w.alloc (.cells l.toArray t)) rfl rfl rfl rfl;refine⟨_,this.1,this.2,?_⟩;simp only[rep,Sg.addRow];exact⟨Nat.lt_succ_self _,w.heap.size,1,1,by simp,by simp⟩
def Jv:∀(i n:Nat),O2 i n=List.range' i n
 | _,0=>rfl
 | i,n+1=>by simp[O2,List.range'_succ,Jv (i+1) n]
def LD{sz n:Nat}:∀(l:List (Nat×List AV)) (vs:List (Nat×Value)) (i:Nat) (A:Array Value),l.map (·.1)=O2 i l.length->dL sz (l.map (·.2))->l.length=vs.length ->
  (∀(j k:Nat) (c:List AV),l[j]?=some (k,c)->∃(v:Value) (l':List Value),vs[j]?=some (k,v)/\v.cells=List.toArray l'/\bN S w c l'/\∀u∈l',u.oneCell'=true)->A.size=n*sz->i+l.length=n ->
  ∃xs:List Value,Instr.fill (fun i=>some (i*sz,sz)) A vs=some (A.toList.take (i*sz)++xs).toArray/\bN S w (l.map (·.2)).flatten xs/\∀u∈xs,u.oneCell'=true
 | [],vs,i,A,_,_,hl,_,hA,hi=>by
  have:vs=[]:=List.eq_nil_of_length_eq_zero (by simpa using hl.symm);subst this;refine⟨[],?_,by simp[bN],by simp⟩;simp only[Instr.fill,List.append_nil];have:i=n:=by simpa using hi
  subst this;rw[List.take_of_length_le (by simp[hA])]
 | (k,c)::rest,vs,i,A,E,hlen,hl,hv,hA,hi=>by
  simp only[List.map_cons,List.length_cons,O2,List.cons.injEq]at E;obtain⟨rfl,E⟩:=E;simp only[List.map_cons,dL]at hlen;obtain⟨v,l',O,X,U,Y⟩:=hv 0 k c (by simp);cases vs with
  | nil=>simp at O
  | cons q vs=>
   simp at O;subst O;have F:l'.length=sz:=by rw[iV _ _ U];exact hlen.1
   simp only[List.length_cons]at hi;have hm:(k+1)*sz<=n*sz:=Nat.mul_le_mul_right _ (by omega);rw[Nat.add_mul,Nat.one_mul]at hm;have V:=FP l' 0 A (k*sz) (by rw[F,hA];omega);simp only[Nat.add_zero]at V;obtain⟨xs,f1,f2,f3⟩:=LD (n:=n) rest vs (k+1) (A.toList.take (k*sz)++l'++A.toList.drop (k*sz+l'.length)).toArray E hlen.2 (by simpa using hl) (fun j i c Z=>by simpa using hv (j+1) i c (by simpa using Z))
    (by simp only[List.size_toArray,List.length_append,List.length_take,List.length_drop,Array.length_toList,F,hA];omega) (by omega)
   refine⟨l'++xs,?_,?_,?_⟩
   ·simp only[Instr.fill,X,List.size_toArray,F];rw[if_neg (by simp[hA];omega)];have I:(Array.foldl (fun cs (x:Value×Nat)=>cs.setIfInBounds (k*sz+x.2) x.1) A l'.toArray.zipIdx)=(A.toList.take (k*sz)++l'++A.toList.drop (k*sz+l'.length)).toArray:=by rw[<-V,<-Array.foldl_toList];simp
    rw[I,f1]
    congr 2
    have e5:List.take ((k+1)*sz) (A.toList.take (k*sz)++l'++A.toList.drop (k*sz+l'.length))=A.toList.take (k*sz)++l':=by rw[Nat.add_mul,Nat.one_mul,List.take_append_of_le_length (by rw[List.length_append,List.length_take,Array.length_toList,F,hA];omega),List.take_of_length_le (by rw[List.length_append,List.length_take,Array.length_toList,F,hA];omega)]
    rw[e5,List.append_assoc]
   ·simp only[List.map_cons,List.flatten_cons];exact eG _ _ _ _ U f2
   ·intro u J;rcases List.mem_append.1 J with J|J
    ·exact Y u J
    ·exact f3 u J
def IX{t e:TypeId}{sz U:Nat}(he:cM P t=some (e,sz,U)){l:List (Nat×List AV)}{E:Array (Nat×Value)}{m:Nat}(O:l.map (·.1)=O2 0 m)(J:dL sz (l.map (·.2)))(hl:l.length=E.toList.length)
  (hv:∀(j k:Nat) (c:List AV),l[j]?=some (k,c)->∃(v:Value) (l':List Value),E.toList[j]?=some (k,v)/\v.cells=List.toArray l'/\bN S w c l'/\∀u∈l',u.oneCell'=true) (hm:m*sz<=16777216):
  ∃xs:List Value,(Instr.buildSlice t m E).run P w=.ok (.slice (some ⟨w.heap.size,0,none⟩) m m) (w.alloc (.cells xs.toArray e))/\bN S w (l.map (·.2)).flatten xs/\(∀u∈xs,u.oneCell'=true)/\l.length=m/\xs.length=m*sz:=by
 obtain⟨I,z,hu,hi,rfl,_,ac,_,hz,ad⟩:=kE he;have V:l.length=m:=by have:=congrArg List.length O;simpa[Jv]using this
 have F:∀xs:List Value,bN S w (l.map (·.2)).flatten xs->xs.length=m*I.size:=fun xs h=>by rw[iV _ _ h,rE _ (kG.1 J),List.length_map,V]
 subst V;obtain⟨xs,f1,Z,f3⟩:=LD (n:=l.length) l E.toList 0 ((Array.range (l.length*I.size)).map (z.cells[·%z.cells.size]!)) O J hl hv (by simp) (by simp);simp only[Nat.zero_mul,List.take_zero,List.nil_append]at f1;refine⟨xs,?_,Z,f3,rfl,F xs Z⟩;have Y:¬l.length*I.size>2^24:=by simpa using hm
 by_cases h0:l.length*I.size=0
 ·have X : l.length = 0 := by
   rcases Nat.mul_eq_zero.1 h0 with h|h
   ·exact h
   ·omega
  have ab:E.toList=[]:=List.eq_nil_of_length_eq_zero (by rw[<-hl,X]);have aa:xs=[]:=List.eq_nil_of_length_eq_zero (by rw[F xs Z,h0]);subst aa;simp[Instr.buildSlice,run_underlying hu,sizeOf,typeInfo,hi,ab,Instr.fill,newRow,X];have:(Array.range 0).map (fun _=>(default:Value))=#[]:=Array.eq_empty_of_size_eq_zero (by simp);rw[this]
 ·simp[Instr.buildSlice,run_underlying hu,sizeOf,typeInfo,hi,Y,h0,zeroValue,hz,newRow];rw[f1];simp
end
end Go.Aw
end
