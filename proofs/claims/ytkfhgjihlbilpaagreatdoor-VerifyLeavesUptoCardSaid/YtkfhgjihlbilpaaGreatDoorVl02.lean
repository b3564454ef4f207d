import Derived.MapKept
import Derived.Lib.ItoaMem
import Derived.Lib.TrailingZeros
import Derived.ArgAppend
import Derived.Deep.LoopGhost
import Derived.Test.YtkfhgjihlbilpaaGreatDoorVl01
set_option linter.unusedSimpArgs false
set_option linter.unusedVariables false
set_option linter.defProp false
set_option maxRecDepth 100000
section
namespace Go.Aw
open Go.RowKit
section
variable{P:Program}{S:Sg}{H:aM}{w:World}{G:Option Bool}{K:AV->Prop}
theorem jT{n:Nat}:∀{l:List (List AV)},cT n l↔∀cs∈l,cs.length=n
 | []=>by simp[cT]
 | x::r=>by simp[cT,jT (l:=r)]
def BM{α:Type}{n:Nat}{f:α->List AV}(h:∀x,(f x).length=n)(l:List α):cT n (l.map f):=jT.2 fun cs A=>by grind
def aqS{b:Bool}{u:Value}(h:rep S w (.v (.bool b)) u):u=.bool b:=by grind[rep]
theorem RF{c:Bool}{x y:AV}{u v:Value}(A:c=true->rep S w x u)(E:c=false->rep S w y v):rep S w (yN c x y) (if c then u else v):=by
 unfold yN
 grind
def UR{c:Bool}{x y:AV}(h:EC G c x y K):
  ∃z,K z/\(gt G->∀u v,rep S w x u->rep S w y v->rep S w z (if c then u else v)):=by
 unfold EC at h
 grind[RF,rep]
def MU{v:Value}(h:v.oneCell'=true):v.cells=#[v]:=by cases v <;> first|rfl|grind[Value.oneCell']
def BN{x:AV}{K:List AV->Prop}(h:pT x K):∃cs,K cs/\∀u,rep S w x u->∃l:List Value,u.cells=l.toArray/\bR S w cs l/\(∀v∈l,v.oneCell'=true):=by
 have E:∀(x:AV) (u:Value),rep S w x u->u.oneCell'=true->∃l:List Value,u.cells=l.toArray/\bR S w [x] l/\(∀v∈l,v.oneCell'=true):=fun x u A h1=>⟨[u],MU h1,by grind[bR],by grind⟩
 unfold pT at h;split at h
 ·refine⟨_,h,fun u A=>?_⟩;simp only[rep]at A;obtain⟨l,rfl,h1,F⟩:=A;exact⟨l,rfl,h1,F⟩
 ·grind[rep]
 ·refine⟨_,h,fun u A=>E _ u A ?_⟩;simp only[rep]at A;obtain⟨_,_,_,rfl,_⟩:=A;rfl
 ·refine⟨_,h,fun u A=>E _ u A ?_⟩;simp only[rep]at A;obtain⟨_,_,rfl,_⟩:=A;rfl
 ·refine⟨_,h,fun u A=>E _ u A ?_⟩;simp only[rep]at A;obtain⟨_,_,_,_,_,rfl⟩:=A;rfl
 ·refine⟨_,h,fun u A=>E _ u A ?_⟩;simp only[rep]at A;obtain⟨_,_,_,_,_,rfl⟩:=A;rfl
 grind
def HB(v:Value):rep S w (uT v) v:=by
 unfold uT;split
 ·unfold rep
  grind
 rfl
theorem pF:∀(l:List Value),bR S w (l.map uT) l
 | []=>by rfl
 | v::r=>by simp only[List.map_cons,bR];exact⟨v,r,rfl,HB v,pF r⟩
def HF:∀(l:List Value) (i:Nat) (A:Array Value) (o:Nat),o+i+l.length<=A.size ->
  ((l.zipIdx i).foldl (fun cs (p:Value×Nat)=>cs.setIfInBounds (o+p.2) p.1) A).toList=A.toList.take (o+i)++l++A.toList.drop (o+i+l.length)
 | [],i,A,o,h=>by simp
 | v::r,i,A,o,h=>by
  simp only[List.zipIdx_cons,List.foldl_cons,List.length_cons]at h |-;rw[HF r (i+1) _ o (by grind)];have I:(A.setIfInBounds (o+i) v).toList=A.toList.set (o+i) v:=by simp
  rw[I,show o+(i+1)=o+i+1 by omega,List.take_set,List.drop_set_of_lt (by omega)];have E:o+i<A.toList.length:=by grind
  have F:(List.take (o+i+1) A.toList).set (o+i) v=List.take (o+i) A.toList++[v]:=by
   rw[List.take_succ_eq_append_getElem E,List.set_append_right _ _ (by grind)];have:(List.take (o+i) A.toList).length=o+i:=by grind
   simp_all
  rw[F];simp only[List.append_assoc,List.cons_append,List.nil_append];rw[show o+i+1+r.length=o+i+(r.length+1)by omega]
def CA{places:List (Nat×Nat)}{place:Nat->Option (Nat×Nat)}(J:∀i U,places[i]?=some U->place i=some U):∀(E:List (Nat×List AV)) (vs:List (Nat×Value)) (cs:List AV) (A:Array Value) (cs':List AV),
  xU places cs E=some cs'->bR S w cs A.toList->(∀v∈A.toList,v.oneCell'=true) ->
  E.length=vs.length->(∀(j i:Nat) (c:List AV),E[j]?=some (i,c)->∃(v:Value) (l:List Value),vs[j]?=some (i,v)/\v.cells=List.toArray l/\bR S w c l/\∀u∈l,u.oneCell'=true) ->
  ∃O,Instr.fill place A vs=some O/\bR S w cs' O.toList/\(∀v∈O.toList,v.oneCell'=true)
 | [],vs,cs,A,cs',F,hr,h1,hl,_=>by simp only[xU]at F;injection F with F;subst F;have:vs=[]:=List.eq_nil_of_length_eq_zero (by grind);subst this;exact⟨A,rfl,hr,h1⟩
 | (i,c)::rest,vs,cs,A,cs',F,hr,h1,hl,hv=>by
  obtain⟨v,l,Z,e2,e3,e4⟩:=hv 0 i c (by simp);cases vs with
  | nil=>grind
  | cons q vs=>
   simp at Z;subst Z;simp only[xU]at F;cases hp:places[i]? with
   | none=>grind
   | some U=>
    obtain⟨off,n⟩:=U;simp only[hp]at F;split at F
    ·rename_i hc;have X:l.length=n:=by grind[jE]
     have hA:A.toList.length=cs.length:=jE _ _ hr;have aa:A.size=cs.length:=by omega
     have Y:=HF l 0 A off (by omega);simp only[Nat.add_zero]at Y;have I:bR S w (cs.take off++c++cs.drop (off+n)) (A.toList.take off++l++A.toList.drop (off+l.length)):=by grind[fZ,wI,wN]
     have T:∀u∈A.toList.take off++l++A.toList.drop (off+l.length),u.oneCell'=true:=by grind
     rw[<-Y]at I T;obtain⟨O,f1,f2,f3⟩:=CA J rest vs _ _ cs' F I T (by grind) (fun j i c hj=>by simpa using hv (j+1) i c (by grind));refine⟨O,?_,f2,f3⟩;simp only[Instr.fill,J i _ hp,e2,List.size_toArray,X]
     grind
    grind
def qV{t:TypeId}{z:List AV}(h:dX P t=some z):∃i v,P.info? t=some i/\i.zero=some v/\z=v.cells.toList.map uT/\v.cells.size=i.size/\i.size≠0/\(∀u∈v.cells.toList,u.oneCell'=true):=by grind[dX]
def bF{x:AV}{k:AV->Prop}(h:cE G x k):∃y,k y/\(gt G->∀u,rep S w x u->rep S w y u):=by
 unfold cE at h;split at h
 ·refine⟨_,h.2,fun E u A=>?_⟩;simp only[rep]at A;refine A.1 ?_;have:=h.1;cases G with
  | none=>exact this
  | some b=>exact this E
 grind
def aiH{op:UnOp}{x:AV}(h:aun op x K):∃z,K z/\∀u,rep S w x u->Br P S H w z (Op.unary op u):=by
 unfold aun at h;split at h
 ·refine⟨_,h,fun u A=>?_⟩;simp only[rep]at A;subst A;exact jM rE fun w'=>by rfl
 ·refine⟨_,h,fun u A=>?_⟩;simp only[rep]at A;subst A;exact jM rE fun w'=>by rfl
 grind
def aeG{t:TypeId}{k:IntKind}(h:Ms P t=some k):P.underlying t=some (.int k):=by grind[Ms]
def UO{t:TypeId}(h:Lo P t=true):∃e,P.underlying t=some (.slice e)/\P.underlying e=some (.int .u8):=by grind[Lo]
def Mc:∀(es:List (List AV)) (ns:List Int) (o:Nat) {b sz:Nat},wZ es=some ns->jX S w b sz o es->0<sz->ns.length=es.length/\∀j n,ns[j]?=some n->w.cell? ⟨b,o+j,none⟩=some (.int .u8 n)
 | [],ns,o,b,sz,h,_,_=>by grind[wZ]
 | es::r,ns,o,b,sz,h,he,hs=>by
  unfold wZ at h;split at h
  ·rename_i e;simp at e
  ·rename_i n r' e;injection e with T J;subst T J;cases F:wZ r with
   | none=>simp[F]at h
   | some ns'=>
    simp[F]at h;subst h;simp only[jX,dS]at he;obtain⟨h1,⟨⟨u,X,_,I⟩,_⟩,U⟩:=he;simp only[rep]at I;subst I;have A:sz=1:=by simpa using h1.symm
    subst A;obtain⟨O,Y⟩:=Mc r ns' (o+1) F U hs;refine⟨by simp[O],fun j m E=>?_⟩;cases j with
    | zero=>simp at E;subst E;simpa using X
    | succ j=>rw[show o+(j+1)=o+1+j by omega];exact Y j m (by simpa using E)
  ·simp at h
def Th{src dst:TypeId}{x:AV}(h:Dr P src dst x K):∃z,K z/\∀u,rep S w x u->Br P S H w z (convert src dst u):=by
 unfold Dr at h;split at h
 ·split at h
  ·rename_i k k' hk aa;refine⟨_,h,fun u E=>?_⟩;simp only[rep]at E;subst E;refine jM rE fun w'=>?_
   simp_all[convert,run_underlying,aeG,Conv.intToInt]
  grind
 ·split at h
  ·rename_i X;refine⟨_,h,fun u E=>?_⟩;simp only[rep]at E;subst E;refine jM rE fun w'=>?_
   simp_all[convert,run_underlying,mZ]
  grind
 ·rename_i es;split at h
  ·rename_i X;split at h
   ·rename_i ns T;refine⟨_,h,fun u E=>?_⟩;obtain⟨e,Y,O⟩:=UO X.1;have Z:=mZ X.2;simp only[rep]at E;obtain⟨ad,n,c,rfl,h1,_,_,I⟩:=E;refine⟨_,rE,fun w' ha=>?_⟩;have F:es=[]->ns=[]:=fun e=>by grind[wZ]
    cases ad with
    | none=>
     have:es=[]:=by grind
     rw[run_convert_bytes_nil w' src e Y O n c dst Z,F this];rfl
    | some a=>
     have A:(loadCells a n).run P w'=.ok (ns.map (Value.int .u8)).toArray w':=by
      rcases I with I|⟨b,o,sz,I,hb,U,J⟩
      ·have hn:n=0:=by grind
       simp_all[loadCells,loadCellsFrom]
      ·injection I with I;subst I;obtain⟨i1,i2⟩:=Mc es ns o T J U;have hn:n=(ns.map (Value.int .u8)).length:=by grind
       rw[hn];refine run_loadCells_list w' _ _ fun j v hj=>?_
       rw[Addr.add_lit];simp at hj;obtain⟨m,hm,rfl⟩:=hj;exact ha.cell hb (i2 j m hm)
     rw[run_convert_bytes_string w' src dst e _ n c Y O Z,run_bytesToString w' a n c ns A,foldl_push_bytes]
     congr 3
     simp
   grind
  grind
 grind
def G1{t:TypeId}{e sz A:Nat}(F:cK P t=some (e,sz,A)):P.underlying t=some (.slice (P.elem t))/\∀w:World,(sizeOf (P.elem t)).run P w=.ok sz w:=by obtain⟨i,z,J,I,E,_⟩:=iJ F;simp_all[Program.elem,sizeOf,typeInfo]
def IC{t:TypeId}{x a b:AV}(h:Ie P G t x a b K):
  ∃z,K z/\(gt G->∀(u E F:Value),rep S w x u->rep S w a E->rep S w b F->Br P S H w z (Instr.sliceAt t u none (some E) (some F))):=by
 unfold Ie at h;split at h
 ·rename_i es ka a kb b;split at h
  ·rename_i e U;refine⟨_,h.2,fun X u E F J h1 O=>?_⟩;obtain⟨T,e2⟩:=h.1 X;simp only[rep]at J h1 O;subst h1 O T e2;obtain⟨ad,n,c,rfl,rfl,hc,hm,Z⟩:=J;obtain⟨A,I⟩:=G1 (P:=P) (t:=t) (by rw[U]);refine⟨.slice ad es.length es.length,?_,fun w' _=>?_⟩
   ·grind[rep]
   ·rw[run_sliceAt_slice w' t _ _ _ _ A];have Y:(es.length:Int)<=(c:Int):=by exact_mod_cast hc
    rcases Z with rfl|⟨bb,o,sz,rfl,_⟩
    ·simp[Instr.slice,run_underlying A,Instr.sliceBounds,Instr.sliceBound,asIntOf,I]
    ·simp[Instr.slice,run_underlying A,Instr.sliceBounds,Instr.sliceBound,asIntOf,I,Addr.add];intro aa;omega
  grind
 grind
def L7{es:List (List AV)}{ad:Option Addr}{n c sz a b:Nat}(O:rep S w (.sl es) (.slice ad n c))(J:cT sz es)(aa:a<=b)(hb:b<=es.length):
  rep S w (.sl ((es.take b).drop a)) (sliced ad a b c sz):=by
 simp only[rep]at O |-;obtain⟨ab,n',c',e,h1,h2,h3,U⟩:=O;injection e with T X e3;subst T X e3;refine⟨_,_,_,rfl,by grind,by omega,by omega,?_⟩;by_cases ac:(es.take b).drop a=[]
 ·grind
 ·refine .inr ?_;rcases U with U|⟨bl,o,A,rfl,I,Z,E⟩
  ·grind
  ·have hl:0<es.length:=by grind
   have F:A=sz:=by
    have T:=(wG es o 0 E hl).1
    grind[jT]
   subst F;have Y:a<b:=by grind
   refine⟨bl,o+a*A,A,?_,I,Z,?_⟩
   all_goals grind[Addr.add_lit,E2,Bv]
def QF{t:TypeId}{x:AV}{lo hi:Option AV}(h:pV P G t x lo hi K):
  ∃z,K z/\(gt G->∀(u:Value) (Y X:Option Value),rep S w x u->(∀y,lo=some y->∃v,Y=some v/\rep S w y v)->(lo=none->Y=none)->(∀y,hi=some y->∃v,X=some v/\rep S w y v)->(hi=none->X=none) ->
   Br P S H w z (Instr.sliceAt t u Y X none)):=by
 unfold pV at h;split at h
 ·rename_i es ka a kb b;split at h
  ·rename_i e sz Z he;refine⟨_,h.2,fun F u Y X A J _ I _=>?_⟩;obtain⟨⟨h0,h1,h2⟩,h3⟩:=h.1 F;obtain⟨v,rfl,E⟩:=J _ rfl;obtain⟨v',rfl,O⟩:=I _ rfl;simp only[rep]at E O;subst E O;have T:=A;simp only[rep]at T;obtain⟨ad,n,c,rfl,e1,e2,_⟩:=T;obtain⟨U,hz⟩:=G1 he;have:=L7 (a:=a.toNat) (b:=b.toNat) A h3 (by omega) (by omega);refine⟨_,this,fun w' _=>?_⟩;rw[run_sliceAt_slice w' t _ _ _ _ U,run_slice_lh w' t ad n c U ka kb a b h0 h1 (by omega),hz];rfl
  grind
 ·rename_i es ka a;split at h
  ·rename_i e sz Z he;refine⟨_,h.2,fun F u Y X A J _ _ I=>?_⟩;obtain⟨⟨h0,h1⟩,h3⟩:=h.1 F;obtain⟨v,rfl,E⟩:=J _ rfl;have:=I rfl;subst this;simp only[rep]at E;subst E;have T:=A;simp only[rep]at T;obtain⟨ad,n,c,rfl,e1,e2,_⟩:=T;obtain⟨U,hz⟩:=G1 he;have:=L7 (a:=a.toNat) (b:=es.length) A h3 (by omega) (by omega);rw[List.take_length,e1]at this;refine⟨_,this,fun w' _=>?_⟩;simp_all[run_sliceAt_slice,run_slice_l]
  grind
 ·rename_i es kb b;split at h
  ·rename_i e he;refine⟨_,h.2,fun F u Y X A _ J I _=>?_⟩;obtain⟨h0,h1⟩:=h.1 F;obtain⟨v,rfl,E⟩:=I _ rfl;have:=J rfl;subst this;simp only[rep]at E;subst E;obtain⟨U,hz⟩:=G1 he;simp only[rep]at A;obtain⟨ad,n,c,rfl,e1,e2,e3,e4⟩:=A;refine⟨sliced ad 0 b.toNat c e.2.1,?_,fun w' _=>?_⟩
   ·simp only[rep];refine⟨ad,b.toNat,c,?_,by grind,by omega,e3,?_⟩
    ·simp[sliced,Addr.add_zero']
    ·rcases e4 with e4|⟨bl,o,ab,rfl,ac,ae,aa⟩
     ·grind
     ·exact .inr ⟨bl,o,ab,rfl,ac,ae,Bv es o _ aa⟩
   ·rw[run_sliceAt_slice w' t _ _ _ _ U,run_slice_h w' t ad n c U kb b h0 (by omega),hz];rfl
  grind
 ·rename_i s ka a kb b;split at h
  ·rename_i U;refine⟨_,h.2,fun F u Y X A J _ I _=>?_⟩;obtain⟨h0,h1,h2⟩:=h.1 F;obtain⟨v,rfl,E⟩:=J _ rfl;obtain⟨v',rfl,O⟩:=I _ rfl;simp only[rep]at A E O;subst A E O;refine jM rE fun w'=>?_
   grind[run_sliceAt_string,mZ,run_slice_string]
  grind
 ·rename_i s ka a;split at h
  ·rename_i U;refine⟨_,h.2,fun F u Y X A J _ _ I=>?_⟩;obtain⟨h0,h1⟩:=h.1 F;obtain⟨v,rfl,E⟩:=J _ rfl;have:=I rfl;subst this;simp only[rep]at A E;subst A E;refine jM rE fun w'=>?_
   grind[run_sliceAt_string,mZ,run_slice_string_l]
  grind
 ·rename_i s kb b;split at h
  ·rename_i U;refine⟨_,h.2,fun F u Y X A _ J I _=>?_⟩;obtain⟨h0,h1⟩:=h.1 F;obtain⟨v,rfl,E⟩:=I _ rfl;have:=J rfl;subst this;simp only[rep]at A E;subst A E;refine jM rE fun w'=>?_
   grind[run_sliceAt_string,mZ,run_slice_string_h]
  grind
 grind
def Yi{k:Nat}{r:Row}(Y:Cj S w H)(hk:H k=some r){a b c:Nat}{ad:Option Addr}{n:Nat}(J:S.loc k=.slice ad n c)(I:a<=b)(hb:b<=r.es.length):n=r.es.length/\n<=c/\rep S w (.oz k a b) (sliced ad a b c r.sz):=by
 have F:=Y k r hk;obtain⟨xs,U,_,_⟩:=F.sl J;have A:(ad=none/\n=0/\c=0/\r.es.length=0)\/∃g,ad=some ⟨g,0,none⟩/\n=r.es.length/\n<=c:=by
  rcases U.2 with⟨X,E⟩|⟨g,cap,cur,X,_,_,T,_⟩
  all_goals grind
 have E:n=r.es.length/\n<=c:=by omega
 refine⟨E.1,E.2,?_⟩;simp only[rep,sliced];refine⟨F.lt,ad,n,c,_,_,J,rfl,I,by omega,fun O=>?_,fun ha=>?_,E.2,rfl⟩
 ·rcases A with⟨_,h1,Z,h3⟩|⟨g,h0,h1,Z⟩
  ·omega
  ·subst h0;refine⟨g,rfl,?_⟩;rw[if_neg (by omega)];simp[Addr.add_lit,F.sz]
 grind[Addr.add_lit]
def wC{H':aM}{t:TypeId}{x:AV}{lo hi:Option AV}(hH:Cj S w H)(h:asl P G H t x lo hi K):
  ∃z,K z/\(gt G->∀(u:Value) (Z X:Option Value),rep S w x u->(∀y,lo=some y->∃v,Z=some v/\rep S w y v)->(lo=none->Z=none)->(∀y,hi=some y->∃v,X=some v/\rep S w y v)->(hi=none->X=none) ->
   Br P S H' w z (Instr.sliceAt t u Z X none)):=by
 unfold asl at h;split at h
 ·rename_i k;split at h
  ·rename_i r e sz Y hk he;obtain⟨J,hz⟩:=G1 he;split at h
   ·rename_i ka a kb b;refine⟨_,h.2,fun O u Z X E U _ T _=>?_⟩;obtain⟨⟨h0,h1,h2⟩,h3⟩:=h.1 O;obtain⟨v,rfl,F⟩:=U _ rfl;obtain⟨v',rfl,ab⟩:=T _ rfl;simp only[rep]at F ab E;subst F ab;obtain⟨_,rfl,ad,n,c,A⟩:=E;obtain⟨q1,q2,q3⟩:=Yi (a:=a.toNat) (b:=b.toNat) hH hk A (by omega) (by omega);rw[A];refine⟨_,q3,fun w' _=>?_⟩;rw[run_sliceAt_slice w' t _ _ _ _ J,run_slice_lh w' t ad n c J ka kb a b h0 h1 (by omega),hz,h3];rfl
   ·rename_i ka a;refine⟨_,h.2,fun O u Z X E U _ _ T=>?_⟩;obtain⟨⟨h0,h1⟩,h3⟩:=h.1 O;obtain⟨v,rfl,F⟩:=U _ rfl;have:=T rfl;subst this;simp only[rep]at F E;subst F;obtain⟨_,rfl,ad,n,c,A⟩:=E;obtain⟨q1,q2,q3⟩:=Yi (a:=a.toNat) (b:=r.es.length) hH hk A (by omega) (by omega);rw[A];refine⟨_,q3,fun w' _=>?_⟩;simp_all[run_sliceAt_slice,run_slice_l]
   ·rename_i kb b;refine⟨_,h.2,fun O u Z X E _ U T _=>?_⟩;obtain⟨⟨h0,h1⟩,h3⟩:=h.1 O;obtain⟨v,rfl,F⟩:=T _ rfl;have:=U rfl;subst this;simp only[rep]at F E;subst F;obtain⟨_,rfl,ad,n,c,A⟩:=E;obtain⟨q1,q2,q3⟩:=Yi (a:=0) (b:=b.toNat) hH hk A (by omega) (by omega);rw[A];refine⟨_,q3,fun w' _=>?_⟩;rw[run_sliceAt_slice w' t _ _ _ _ J,run_slice_h w' t ad n c J kb b h0 (by omega),hz,h3];rfl
   ·exact h.elim
  ·exact h.elim
 ·rename_i k a b;split at h
  ·rename_i r e sz Y hk he;obtain⟨J,hz⟩:=G1 he;split at h
   ·rename_i kl l;refine⟨_,h.2,fun O u Z X E U _ _ T=>?_⟩;obtain⟨⟨h0,h1⟩,h3⟩:=h.1 O;obtain⟨v,rfl,F⟩:=U _ rfl;have:=T rfl;subst this;simp only[rep]at F E;subst F;obtain⟨ai,ad,n,c,aa,cc,A,rfl,aj,ac,I,ah,af,rfl⟩:=E;have hR:=hH k r hk;refine⟨sliced aa l.toNat (b-a) (c-a) r.sz,?_,fun w' _=>?_⟩
    ·simp only[rep,sliced];refine⟨ai,ad,n,c,_,_,A,congrArg (fun m=>Value.slice _ m _) (by omega),by omega,ac,fun hc=>?_,fun ha=>?_,af,by omega⟩
     ·obtain⟨g,rfl,rfl⟩:=I (by omega);refine⟨g,rfl,?_⟩;rw[if_neg (by omega)];simp[Addr.add_lit,hR.sz,Nat.add_mul]
     ·have ae:a=0:=by omega
      have ag:l.toNat=0:=by omega
      obtain⟨e1,e2⟩:=ah ae;subst e1;refine⟨?_,by omega⟩;rw[ag];split
      ·rfl
      ·rename_i ak;obtain⟨g,e1,e2⟩:=I (by omega);rw[e1];simp[Addr.add_lit]
    ·rw[run_sliceAt_slice w' t _ _ _ _ J,run_slice_l w' t aa (b-a) (c-a) J kl l h0 (by omega),hz,h3];rfl
   grind
  grind
 ·exact QF h
def QG{t:TypeId}{x i:AV}(h:Bc P G t x i K):
  ∃z,K z/\(gt G->∀u v,rep S w x u->rep S w i v->Br P S H w z (Instr.index t u v)):=by
 unfold Bc at h;split at h
 ·rename_i s k n;split at h
  ·rename_i U;refine⟨_,h.2,fun E u v I A=>?_⟩;obtain⟨h0,h1⟩:=h.1 E;simp only[rep]at I A;subst I A;refine jM rE fun w'=>?_
   rw[run_index_string w' t s k n (mZ U),dif_pos ⟨h0,h1⟩];have J:n.toNat<s.data.size:=by simp_all
   congr 4
   rw[Array.getD,dif_pos J];rfl
  grind
 ·rename_i cs k n;split at h
  ·rename_i m s l ha;obtain⟨e,Y,I,hi,rfl,_,hl⟩:=Nx ha;obtain⟨z,X,hd⟩:=Ii (S:=S) (H:=H) (w:=w) hl h.2;refine⟨z,X,fun E u v O A=>?_⟩;obtain⟨h0,h1⟩:=h.1 E;obtain⟨cs',rfl,F⟩:=hd E u O;simp only[rep]at A;subst A;obtain⟨r,Z,T⟩:=F;refine⟨r,Z,fun w' hw=>?_⟩;simp_all[Instr.index,asIntOf,run_underlying,sizeOf,typeInfo]
  grind
 grind
def opB(n:Nat):Operand->Bool
 | .tmp t=>decide (t<n)
 | _=>true
def FR(S:Sg)(w:World)(ρ:Env)(a:Act):Prop:=∀t,t<a.tmps.size->rep S w (ρ t) (a.tmps.getD t undef)
theorem dM{ρ:Env}{a:Act}(E:FR S w ρ a){x:Operand}(A:opB a.tmps.size x=true):rep S w (aev ρ x) (a.eval x):=by
 cases x with
 | tmp t=>simp only[opB,decide_eq_true_eq]at A;exact E t A
 | const v=>exact HB v
 | global g=>trivial
 | func f=>rfl
def Ya{ρ:Env}{a:Act}(A:FR S w ρ a){x:Operand}(E:opB a.tmps.size x=true):rep S w (Q5 ρ x) (a.eval x):=by
 cases x with
 | const v=>rfl
 | tmp t=>exact dM A E
 | global g=>exact dM A E
 | func f=>rfl
def IW{ρ:Env}{a:Act}(A:FR S w ρ a):∀(l:List Operand),(∀x∈l,opB a.tmps.size x=true)->bR S w (l.map (Q5 ρ)) (l.map a.eval)
 | [],_=>rfl
 | x::l,h=>by simp only[List.map_cons,bR];exact⟨_,_,rfl,Ya A (h x (by simp)),IW A l fun y E=>h y (by simp[E])⟩
def rR{ρ:Env}{a:Act}(I:FR S w ρ a):∀(l:List (Nat×Operand)) {K:List (Nat×List AV)->Prop},(∀p∈l,opB a.tmps.size p.2=true)->tV G ρ l K ->
  ∃A,K A/\(gt G->A.length=(l.map fun p=>(p.1,a.eval p.2)).length /\
   ∀(j i:Nat) (c:List AV),A[j]?=some (i,c)->∃(v:Value) (l':List Value),(l.map fun p=>(p.1,a.eval p.2))[j]?=some (i,v)/\v.cells=List.toArray l'/\bR S w c l'/\∀u∈l',u.oneCell'=true)
 | [],K,_,h=>⟨[],h,fun _=>⟨rfl,by simp⟩⟩
 | (i,x)::rest,K,hb,h=>by
  simp only[tV]at h;obtain⟨y,h,U⟩:=bF (S:=S) (w:=w) h;obtain⟨cs,h,E⟩:=BN (S:=S) (w:=w) h;obtain⟨A,T,F⟩:=rR I rest (fun p hp=>hb p (by grind)) h;refine⟨_,T,fun O=>?_⟩;obtain⟨Z,Y⟩:=F O;refine⟨by grind,fun j k c J=>?_⟩;cases j with
  | zero=>
   simp at J;obtain⟨rfl,rfl⟩:=J;obtain⟨l',f1,f2,X⟩:=E _ (U O _ (dM I (hb (i,x) (by simp))))
   grind
  | succ j=>grind
def Ak{t:TypeId}{i:TypeInfo}{E:Value}{z:List AV}{U:List (Nat×Nat)}(hi:P.info? t=some i)(aa:i.zero=some E)(h1:∀u∈E.cells.toList,u.oneCell'=true)(Y:bR S w z E.cells.toList)(I:eH P t=some U){A:List (Nat×List AV)}{vs:List (Nat×Value)}{cs:List AV}
  (X:xU U z A=some cs) (hl:A.length=vs.length)
  (Z:∀(j i:Nat) (c:List AV),A[j]?=some (i,c)->∃(v:Value) (l:List Value),vs[j]?=some (i,v)/\v.cells=List.toArray l/\bR S w c l/\∀u∈l,u.oneCell'=true):
  ∃F,P.built t vs=some F/\bR S w cs F.toList/\∀v∈F.toList,v.oneCell'=true:=by
 unfold eH at I;split at I
 ·rename_i fs hu;obtain⟨F,f1,f2,f3⟩:=CA (place:=fun i=>U.toArray[i]?) (fun i on h=>by grind) A vs _ E.cells cs X Y h1 hl Z
  grind[Program.built]
 ·rename_i n e hu;cases T:P.info? e with
  | none=>grind
  | some ie=>
   simp[T]at I;obtain⟨F,f1,f2,f3⟩:=CA (place:=fun i=>some (i*ie.size,ie.size)) (fun i on h=>by
    rw[<-I]at h;simp only[List.getElem?_map,Option.map_eq_some_iff]at h;obtain⟨j,h,rfl⟩:=h;have J:i<n:=by
     rcases Nat.lt_or_ge i n with O|O
     ·exact O
     ·simp[O]at h
    simp[J]at h;rw[h]) A vs _ E.cells cs X Y h1 hl Z
   grind[Program.built]
 grind
def QB{t:TypeId}{z:List AV}{I:List (Nat×Nat)}(T:dX P t=some z)(X:eH P t=some I){A:List (Nat×List AV)}{vs:List (Nat×Value)}{cs:List AV}
  (J:xU I z A=some cs) (hl:A.length=vs.length)
  (Y:∀(j i:Nat) (c:List AV),A[j]?=some (i,c)->∃(v:Value) (l:List Value),vs[j]?=some (i,v)/\v.cells=List.toArray l/\bR S w c l/\∀u∈l,u.oneCell'=true):
  ∃F,P.built t vs=some F/\bR S w cs F.toList/\∀v∈F.toList,v.oneCell'=true:=by
 obtain⟨i,U,Z,E,rfl,O,_,h1⟩:=qV T;exact Ak Z E h1 (pF U.cells.toList) X J hl Y
end
end Go.Aw
end
section
namespace Go.Aw
open Go.RowKit
section
variable{P:Program}{S:Sg}{H:aM}{w:World}{G:Option Bool}{K:AV->Prop}
theorem adG{a b:ByteArray}(h:a.toList=b.toList):a=b:=by grind[ByteArray.toList_eq,ByteArray.ext,Array.toList_inj]
def adB{t:TypeId}{A:TypeId×TypeId}(h:Xa P t=some A):P.underlying t=some (.map A.1 A.2):=by grind[Xa]
def Nl{t:TypeId}{z:AV}(h:NS P t=some z):∃v,(∀w':World,(zeroValue t).run P w'=.ok v w')/\∀S w,rep S w z v:=by
 unfold NS at h;split at h
 ·rename_i i F;split at h
  ·rename_i cs E;split at h
   ·rename_i A;injection h with h;subst h;refine⟨.agg cs,fun w'=>by simp_all[zeroValue,typeInfo],fun S w=>?_⟩
    grind[rep,pF]
   grind
  ·rename_i v _ E;split at h
   ·injection h with h;subst h;simp_all[zeroValue,typeInfo,HB]
   grind
  grind
 grind
def OH{X:TypeId}{x y:AV}{b:Bool}(h:AT P X x y=some b){u v:Value}(T:rep S w x u)(U:rep S w y v):
  ∃d,P.underlying X=some d/\Instr.sameNow d u v=some b/\(b=true->u=v/\∀n,Instr.sameBits (n+1) v u=true):=by
 unfold AT at h;split at h
 ·rename_i a c;simp only[rep]at T U;subst T U;split at h
  ·rename_i k J;unfold Dj at h;split at h
   ·rename_i Z a1 Y O E A;cases E;cases A;split at h
    ·rename_i I;subst I;rcases qN J with⟨_,k',F⟩|⟨h0,_⟩|⟨h0,_⟩
     ·injection h with h;subst h;simp_all[Instr.sameNow,Instr.sameBits]
     all_goals omega
    grind
   ·rename_i a1 O E A;cases E;cases A;rcases qN J with⟨h0,_⟩|⟨_,F⟩|⟨h0,_⟩
    all_goals grind[beq_toListBytes,Instr.sameNow,adG,Instr.sameBits]
   ·rename_i a1 O E A;cases E;cases A;rcases qN J with⟨h0,_⟩|⟨h0,_⟩|⟨_,F⟩
    ·omega
    ·omega
    ·injection h with h;subst h;simp_all[Instr.sameNow,Instr.sameBits]
   grind
  grind
 grind
def NX{X:TypeId}{x:AV}{u:Value}{d:TypeDesc}(T:P.underlying X=some d)(J:rep S w x u):∀(es:List (List AV)) (ms:List MapEntry) (i:Nat) {oi:Option Nat},pH S w i es ms->yH (AT P X x) es i=some oi ->
  (oi=none->Instr.findNow d u ms i=some none)/\∀j,oi=some j->∃m cs,i<=j/\ms[j-i]?=some m/\es[j-i]?=some cs/\Instr.findNow d u ms i=some (some (j,m.val))/\m.key=u/\(∀n,Instr.sameBits (n+1) m.key u=true)/\m.born=j/\bR S w cs [m.key,m.val]
 | [],ms,i,oi,he,E=>by simp only[pH]at he;subst he;simp only[yH]at E;injection E with E;subst E;exact⟨fun _=>rfl,fun j h=>by grind⟩
 | cs::r,ms,i,oi,he,E=>by
  simp only[pH]at he;obtain⟨m,t,rfl,hb,hr,ht⟩:=he;unfold yH at E;have U:rep S w (cs.getD 0 .any) m.key:=by cases cs<;>grind[bR]
  split at E
  ·rename_i F;injection E with E;subst E;obtain⟨d',A,h1,O⟩:=OH F J U;rw[T]at A;injection A with A;subst A;refine⟨fun h=>by grind,fun j I=>?_⟩;injection I with I;subst I;exact⟨m,cs,Nat.le_refl _,by simp,by simp,by grind[Instr.findNow],(O rfl).1.symm,(O rfl).2,hb,hr⟩
  ·rename_i F;obtain⟨d',A,h1,O⟩:=OH F J U;rw[T]at A;injection A with A;subst A;obtain⟨Y,g2⟩:=NX T J r t (i+1) ht E;refine⟨fun h=>by simp[Instr.findNow,h1,Y h],fun j I=>?_⟩;obtain⟨m',cs',q1,q2,q3,Z,q5⟩:=g2 j I;have e:j-i=(j-(i+1))+1:=by omega
   exact⟨m',cs',by omega,by rw[e];simpa using q2,by rw[e];simpa using q3,by simp[Instr.findNow,h1,Z],q5⟩
  ·simp at E
theorem Dp:∀(i:Nat) (es:List (List AV)) (ms:List MapEntry),pH S w i es ms->ms.length=es.length
 | _,[],ms,h=>by grind[pH]
 | i,cs::r,ms,h=>by simp only[pH]at h;obtain⟨m,t,rfl,_,_,A⟩:=h;simp[Dp (i+1) r t A]
def SL:∀(i:Nat) (es:List (List AV)) (ms:List MapEntry) (j:Nat),pH S w i es ms->j<es.length->∃m,ms[j]?=some m/\m.born=i+j/\bR S w (es.getD j []) [m.key,m.val]
 | _,[],_,_,_,h=>by grind
 | i,cs::r,ms,0,h,_=>by grind[pH]
 | i,cs::r,ms,j+1,h,hj=>by simp only[pH]at h;obtain⟨m,t,rfl,_,_,A⟩:=h;obtain⟨E,F,I,g3⟩:=SL (i+1) r t j A (by simpa using hj);exact⟨E,by simpa using F,by omega,by simpa using g3⟩
def F5:∀(i:Nat) (es:List (List AV)) (ms:List MapEntry) (j:Nat) {cs:List AV} {m:MapEntry},pH S w i es ms->m.born=i+j->bR S w cs [m.key,m.val]->pH S w i (es.set j cs) (ms.set j m)
 | _,[],ms,_,_,_,h,_,_=>by grind[pH]
 | i,c::r,ms,0,cs,m,h,hb,hr=>by grind[pH]
 | i,c::r,ms,j+1,cs,m,h,hb,hr=>by simp only[pH]at h;obtain⟨F,t,rfl,h1,A,E⟩:=h;simp only[List.set_cons_succ,pH];exact⟨F,t.set j m,rfl,h1,A,F5 (i+1) r t j E (by omega) hr⟩
def Ga:∀(i:Nat) (es:List (List AV)) (ms:List MapEntry) {cs:List AV} {m:MapEntry},pH S w i es ms->m.born=i+es.length->bR S w cs [m.key,m.val]->pH S w i (es++[cs]) (ms++[m])
 | i,[],ms,cs,m,h,hb,hr=>by grind[pH]
 | i,c::r,ms,cs,m,h,hb,hr=>by simp only[pH]at h;obtain⟨F,t,rfl,h1,A,E⟩:=h;simp only[List.cons_append,pH];exact⟨F,t++[m],rfl,h1,A,Ga (i+1) r t E (by simp at hb;omega) hr⟩
def Cv{A:TypeId}{x:AV}(h:uU P A x=true){u:Value}(E:rep S w x u)(e:Bool)(n:Nat)(w':World):(∃d,P.underlying A=some d)/\(Instr.checkKey e (n+1) A u).run P w'=.ok () w':=by
 unfold uU at h;split at h
 all_goals first|(simp at h;done)|skip
 all_goals
  simp only[beq_iff_eq]at h;simp only[rep]at E;subst E;rcases qN h with⟨h0,k',hk'⟩|⟨h0,hk'⟩|⟨h0,hk'⟩ <;> first
   | (simp at h0;done)
   | exact⟨⟨_,hk'⟩,by unfold Instr.checkKey;simp only[Sem.run_bind,run_underlying hk',Result.andThen];rfl⟩
def UG{t:TypeId}{A:TypeId×TypeId}{x:AV}{r:Row}{k:Nat}{u:Value}{E:Option Nat}(Y:Xa P t=some A)(J:uU P A.1 x=true)(O:yH (AT P A.1 x) r.es 0=some E)(T:apI S w k r)(F:rep S w x u):
  ∃g ms,S.loc k=.map (some g)/\w.heap[g]?=some (.map (List.toArray ms) ms.length)/\pH S w 0 r.es ms/\P.underlying t=some (.map A.1 A.2)/\(∀e (w':World),(Instr.checkKey e 10000 A.1 u).run P w'=.ok () w') /\
   ((E=none/\∀w':World,(Instr.findKey A.1 u ms).run P w'=.ok none w') \/
   ∃j m cs,E=some j/\ms[j]?=some m/\r.es[j]?=some cs/\(∀w':World,(Instr.findKey A.1 u ms).run P w'=.ok (some (j,m.val)) w')/\m.key=u/\(∀n,Instr.sameBits (n+1) m.key u=true)/\m.born=j/\bR S w cs [m.key,m.val]):=by
 obtain⟨g,ms,h1,U,I,_⟩:=T;obtain⟨⟨d,Z⟩,_⟩:=Cv J F true 0 w;refine⟨g,ms,h1,U,I,adB Y,fun e w'=>(Cv J F e 9999 w').2,?_⟩;obtain⟨f1,X⟩:=NX Z F r.es ms 0 I O;cases E with
 | none=>simp_all[Instr.findKey,run_underlying]
 | some j=>obtain⟨m,cs,_,q2,q3,q4,q5,q6,q7,q8⟩:=X j rfl;simp_all[Instr.findKey,run_underlying]
def KO{cs:List AV}{a b:Value}(h:bR S w cs [a,b]):∃x y,cs=[x,y]/\rep S w x a/\rep S w y b:=by
 cases cs with
 | nil=>grind[bR]
 | cons x cs=>
  simp only[bR]at h;obtain⟨u,t,e,h1,F⟩:=h;injection e with E A;subst E A;cases cs with
  | nil=>grind[bR]
  | cons y cs=>simp only[bR]at F;obtain⟨u,t,e,I,J⟩:=F;injection e with E A;subst E A;cases cs<;>grind[bR]
def Mz{t:TypeId}{x I:AV}{ok:Bool}(hH:Cj S w H)(h:zB P H t x I ok K):
  ∃z,K z/\(gt G->∀u v,rep S w x u->rep S w I v->Br P S H w z (Instr.lookup t u v ok)):=by
 unfold zB Ij at h;split at h
 ·rename_i j;split at h
  ·rename_i r kt hj ht;split at h
   ·rename_i oi hf;obtain⟨hp,h⟩:=h;split at h
    ·rename_i z hz;refine⟨_,h,fun _ u v Y hv=>?_⟩;simp only[rep]at Y;obtain⟨_,rfl,g0,X⟩:=Y;obtain⟨g,ms,h1,h2,h3,J,O,T⟩:=UG ht hp hf ((hH j r hj).mp X) hv;obtain⟨Z,F,U⟩:=Nl hz;have A:∀w',Agree S H w w'->w'.heap[g]?=some (.map (List.toArray ms) ms.length):=fun w' E=>(E.own j r hj g (by rw[h1];rfl)).trans h2
     rcases T with⟨rfl,T⟩|⟨i,m,cs,rfl,q1,q2,q3,q4,q5,q6,q7⟩
     ·cases ok with
      | false=>refine⟨Z,U S w,fun w' E=>?_⟩;simp[Instr.lookup,run_underlying J,h1,MapKept.run_getObj_map (A w' E),O,T,F]
      | true=>
       refine⟨.tuple #[Z,.bool false],?_,fun w' E=>?_⟩
       ·simp_all[Qs,rep,bR]
       ·simp[Instr.lookup,run_underlying J,h1,MapKept.run_getObj_map (A w' E),O,T,F]
     ·obtain⟨xk,xv,rfl,r1,r2⟩:=KO q7;have e1:(r.es.getD i []).getD 1 .any=xv:=by grind
      cases ok with
      | false=>refine⟨m.val,by grind[Qs],fun w' E=>?_⟩;simp[Instr.lookup,run_underlying J,h1,MapKept.run_getObj_map (A w' E),O,q3]
      | true=>
       refine⟨.tuple #[m.val,.bool true],?_,fun w' E=>?_⟩
       ·simp_all[Qs,rep,bR]
       ·simp[Instr.lookup,run_underlying J,h1,MapKept.run_getObj_map (A w' E),O,q3]
    grind
   grind
  grind
 grind
end
end Go.Aw
end
section
namespace Go.Aw
open Go.RowKit
section
variable{P:Program}{S:Sg}{H:aM}{w:World}{G:Option Bool}{K:AV->Prop}
def pN(P:Program)(S:Sg)(H:aM)(w:World)(a:Act)(op:Op)(z:AV):Prop:=
 ∃v,rep S w z v/\∀w',Agree S H w w'->∀o:Oper,o.op=op->(execOp a.eval o).run P w'=.ok (.value v) w'
theorem pN.of_does{a:Act}{op:Op}{z:AV}{s:Sem Value}(E:Br P S H w z s)(O:∀o:Oper,o.op=op->execOp a.eval o=(do pure (Next.value (<-s)):Sem Next)):pN P S H w a op z:=by obtain⟨v,A,F⟩:=E;exact⟨v,A,fun w' I o J=>by simp_all⟩
def qZ{G:Option Bool}{ρ:Env}{a:Act}(F:FR S w ρ a):∀(l:List Operand) {K:List AV->Prop},(∀x∈l,opB a.tmps.size x=true)->Ek G ρ l K ->
  ∃A,K A/\(gt G->bR S w A (l.map a.eval))
 | [],K,_,h=>⟨[],h,fun _=>by rfl⟩
 | x::rest,K,hb,h=>by
  simp only[Ek]at h;obtain⟨y,h,T⟩:=bF (S:=S) (w:=w) h;obtain⟨A,E,I⟩:=qZ F rest (fun x O=>hb x (by grind)) h;refine⟨_,E,fun J=>?_⟩;simp only[List.map_cons,bR]
  grind[dM]
def Im{ρ:Env}{a:Act}{op:Op}(Y:∀x∈op.operands,opB a.tmps.size x=true)(hF:FR S w ρ a)(hH:Cj S w H)(h:jV P G ρ H op K):
  ∃z,K z/\(gt G->pN P S H w a op z):=by
 have ev:=fun x F=>dM hF (Y x F)
 cases op <;> simp only[jV]at h <;> simp only[Op.operands]at ev Y <;> try exact h.elim
 case move x=>obtain⟨z,E,O⟩:=bF (S:=S) (w:=w) h;exact⟨z,E,fun A=>⟨_,O A _ (ev x (by simp)),fun w' _ o I=>by simp[execOp,I]⟩⟩
 case assign x=>obtain⟨z,E,O⟩:=bF (S:=S) (w:=w) h;exact⟨z,E,fun A=>⟨_,O A _ (ev x (by simp)),fun w' _ o I=>by simp[execOp,I]⟩⟩
 case pick c x y=>
  obtain⟨zc,h,hc⟩:=bF (S:=S) (w:=w) h;split at h
  ·rename_i b;obtain⟨z,E,O⟩:=UR (S:=S) (w:=w) h;refine⟨z,E,fun A=>?_⟩;have e:=aqS (hc A _ (ev c (by simp)));refine⟨_,O A _ _ (ev x (by simp)) (ev y (by simp)),fun w' _ o I=>?_⟩;simp_all[execOp,asBool]
  grind
 case build t parts=>
  obtain⟨ps,h,ac⟩:=rR hF parts.toList (fun p hp=>Y p.2 (by grind)) h;unfold Cw at h;split at h
  ·rename_i z pl E ag;split at h
   ·rename_i cs aa;refine⟨_,h,fun A=>?_⟩;obtain⟨e1,e2⟩:=ac A;obtain⟨A',f1,f2,f3⟩:=QB (S:=S) (w:=w) E ag aa e1 e2;refine⟨.agg A',by grind[rep],fun w' _ o I=>?_⟩;simp_all[execOp,run_build]
   grind
  grind
 case load t x=>
  split at h
  ·rename_i l hl;obtain⟨y,h,O⟩:=bF (S:=S) (w:=w) h
   grind[IK,pN.of_does,execOp]
  grind
 case nilCheck x=>
  obtain⟨y,h,O⟩:=bF (S:=S) (w:=w) h;split at h
  ·refine⟨_,h,fun A=>?_⟩;have e:=O A _ (ev x (by simp));refine⟨_,e,fun w' _ o I=>?_⟩;simp only[rep]at e;obtain⟨b,p,e,_⟩:=e;simp_all[execOp]
  ·refine⟨_,h,fun A=>?_⟩;have e:=O A _ (ev x (by simp));refine⟨_,e,fun w' _ o I=>?_⟩;simp only[rep]at e;obtain⟨_,b,p,c,_,e⟩:=e;simp_all[execOp]
  all_goals grind
 case binOp op t x y t'=>
  split at h
  ·rename_i ak;have O:y=.const (.slice none 0 0):=by grind[yC]
   subst O;obtain⟨U,h,F⟩:=bF (S:=S) (w:=w) h;obtain⟨af,h⟩:=h;obtain⟨e,ae⟩:=yT af;have ai:∀(b:Bool) (ad:Option Addr) (n c:Nat),a.eval x=.slice ad n c->(op=.eql/\b=ad.isNone\/op=.neq/\b= !ad.isNone)->pN P S H w a (.binOp op t x (.const (.slice none 0 0)) t') (.v (.bool b)):=by
    intro b ad n c F Y;refine⟨.bool b,by rfl,fun w' _ o I=>?_⟩;have ec:a.eval (.const (.slice none 0 0))=.slice none 0 0:=rfl;simp only[execOp,I,F,ec];have A:(eqGuard op t x (.const (.slice none 0 0)) (.slice ad n c) (.slice none 0 0)).run P w'=.ok () w':=jL op t x _ _ _ (by simp) (by simp) w';have he:(Op.equal t (.slice ad n c) (.slice none 0 0)).run P w'=.ok ad.isNone w':=by have e0:Op.equal t (.slice ad n c) (.slice none 0 0)=Op.equalIn (9999+1) t (.slice ad n c) (.slice none 0 0):=rfl;rw[e0];unfold Op.equalIn;cases ad <;> simp[run_underlying ae]
    rcases Y with⟨rfl,rfl⟩|⟨rfl,rfl⟩
    all_goals simp_all[binOp]
   by_cases A:gt G
   ·have ex:=F A _ (ev x (by simp));unfold vC at h
    grind[rep]
   ·unfold vC at h
    grind
  obtain⟨U,h,F⟩:=bF (S:=S) (w:=w) h;obtain⟨y',h,O⟩:=bF (S:=S) (w:=w) h;obtain⟨z,E,J⟩:=XH (S:=S) (H:=H) (w:=w) h;exact⟨z,E,fun A=>pN.of_does (J A _ _ (F A _ (ev x (by simp))) (O A _ (ev y (by simp))) x y) (fun o I=>by grind[execOp])⟩
 case unOp op t x=>
  obtain⟨U,h,F⟩:=bF (S:=S) (w:=w) h;obtain⟨z,E,J⟩:=aiH (P:=P) (S:=S) (H:=H) (w:=w) h
  grind[pN.of_does,execOp]
 case convert src dst x=>
  obtain⟨U,h,F⟩:=bF (S:=S) (w:=w) h;obtain⟨z,E,J⟩:=Th (S:=S) (H:=H) (w:=w) h
  grind[pN.of_does,execOp]
 case slice t x lo T m=>
  cases m with
  | some m=>
   cases lo with
   | some lo=>grind
   | none=>
    cases T with
    | none=>grind
    | some T=>simp only at h;obtain⟨U,h,F⟩:=bF (S:=S) (w:=w) h;obtain⟨Z,h,X⟩:=bF (S:=S) (w:=w) h;obtain⟨m',h,hm⟩:=bF (S:=S) (w:=w) h;obtain⟨z,E,J⟩:=IC (S:=S) (w:=w) (H:=H) h;exact⟨z,E,fun A=>pN.of_does (J A _ _ _ (F A _ (ev x (by simp))) (X A _ (ev T (by simp))) (hm A _ (ev m (by simp)))) (fun o I=>by grind[execOp])⟩
  | none=>
   simp only at h;obtain⟨U,h,F⟩:=bF (S:=S) (w:=w) h;cases lo with
   | some lo=>
    cases T with
    | some T=>
     obtain⟨ab,h,ah⟩:=bF (S:=S) (w:=w) h;obtain⟨Z,h,X⟩:=bF (S:=S) (w:=w) h;obtain⟨z,E,J⟩:=wC hH h;refine⟨z,E,fun A=>pN.of_does (J A _ (some (a.eval lo)) (some (a.eval T)) (F A _ (ev x (by simp))) ?_ (by simp) ?_ (by simp)) (fun o I=>by grind[execOp])⟩
     all_goals grind
    | none=>
     obtain⟨ab,h,ah⟩:=bF (S:=S) (w:=w) h;obtain⟨z,E,J⟩:=wC hH h;refine⟨z,E,fun A=>pN.of_does (J A _ (some (a.eval lo)) none (F A _ (ev x (by simp))) ?_ (by simp) (by simp) (by simp)) (fun o I=>by grind[execOp])⟩
     grind
   | none=>
    cases T with
    | some T=>
     obtain⟨Z,h,X⟩:=bF (S:=S) (w:=w) h;obtain⟨z,E,J⟩:=wC hH h;refine⟨z,E,fun A=>pN.of_does (J A _ none (some (a.eval T)) (F A _ (ev x (by simp))) (by simp) (by simp) ?_ (by simp)) (fun o I=>by grind[execOp])⟩
     grind
    | none=>grind
 case fieldAddr t x f=>
  obtain⟨U,h,F⟩:=bF (S:=S) (w:=w) h;obtain⟨z,E,J⟩:=HH (G:=G) (S:=S) (H:=H) (w:=w) h
  grind[pN.of_does,execOp]
 case field t x f=>
  split at h
  ·rename_i o l I;obtain⟨U,h,F⟩:=bF (S:=S) (w:=w) h;obtain⟨fs,fd,i,hu,hf,rfl,T,_,hl⟩:=Ev I;obtain⟨z,E,J⟩:=Ii (S:=S) (H:=H) (w:=w) hl h;refine⟨z,E,fun A=>?_⟩;obtain⟨cs,e,J⟩:=J A _ (F A _ (ev x (by simp)));refine pN.of_does (s:=Instr.field t (.agg cs) f) ?_ (fun o I=>by grind[execOp]);obtain⟨v,hv,hr⟩:=J;refine⟨v,hv,fun w' ha=>?_⟩;simp_all[Instr.field,run_underlying,asAgg]
  grind
 case indexAddr t x i=>
  obtain⟨U,h,F⟩:=bF (S:=S) (w:=w) h;obtain⟨i',h,T⟩:=bF (S:=S) (w:=w) h
  grind[Ic,pN.of_does,execOp]
 case index t x i=>
  obtain⟨U,h,F⟩:=bF (S:=S) (w:=w) h;obtain⟨i',h,T⟩:=bF (S:=S) (w:=w) h;obtain⟨z,E,J⟩:=QG (S:=S) (H:=H) (w:=w) h
  grind[pN.of_does,execOp]
 case extract x i=>
  obtain⟨U,h,F⟩:=bF (S:=S) (w:=w) h;split at h
  ·rename_i vs;refine⟨_,h.2,fun A=>?_⟩;have e:=F A _ (ev x (by simp));simp only[rep]at e;obtain⟨l,e,hl⟩:=e;obtain⟨u,h1,h2⟩:=Gt vs l i hl (h.1 A);exact⟨u,h2,fun w' _ o I=>by simp_all[execOp,Instr.extract]⟩
  grind
 case lookup t x i ok=>
  obtain⟨U,h,F⟩:=bF (S:=S) (w:=w) h;obtain⟨i',h,T⟩:=bF (S:=S) (w:=w) h;obtain⟨z,E,J⟩:=Mz (G:=G) hH h
  grind[pN.of_does,execOp]
 case makeFunc f first cap=>
  cases f <;> simp only at h <;> try exact h.elim
  rename_i f;obtain⟨hf,h⟩:=h;subst hf;obtain⟨ys,E,aj⟩:=qZ hF cap.toList (fun x F=>Y x (by grind)) h;refine⟨_,E,fun A=>⟨.func (.func f) #[] (cap.map a.eval),?_,fun w' _ o I=>by simp[execOp,I,Instr.makeFunc]⟩⟩
  grind[rep,Array.toList_map]
def Fw{H':aM}{ρ:Env}{a:Act}{t:TypeId}{x:Operand}{lo E m:Option Operand}(hb:∀y∈(Op.slice t x lo E m).operands,opB a.tmps.size y=true)(hF:FR S w ρ a)(Y:Cj S w H)(h:jV P G ρ H (.slice t x lo E m) K):
  ∃z,K z/\(gt G->pN P S H' w a (.slice t x lo E m) z):=by
 have ev:=fun x I=>dM hF (hb x I)
 simp only[jV]at h;simp only[Op.operands]at ev hb;cases m with
 | some m=>
  cases lo with
  | some lo=>grind
  | none=>
   cases E with
   | none=>grind
   | some E=>simp only at h;obtain⟨x',h,I⟩:=bF (S:=S) (w:=w) h;obtain⟨T,h,F⟩:=bF (S:=S) (w:=w) h;obtain⟨m',h,hm⟩:=bF (S:=S) (w:=w) h;obtain⟨z,J,O⟩:=IC (S:=S) (w:=w) (H:=H') h;exact⟨z,J,fun A=>pN.of_does (O A _ _ _ (I A _ (ev x (by simp))) (F A _ (ev E (by simp))) (hm A _ (ev m (by simp)))) (fun o X=>by grind[execOp])⟩
 | none=>
  simp only at h;obtain⟨x',h,I⟩:=bF (S:=S) (w:=w) h;cases lo with
  | some lo=>
   cases E with
   | some E=>
    obtain⟨U,h,Z⟩:=bF (S:=S) (w:=w) h;obtain⟨T,h,F⟩:=bF (S:=S) (w:=w) h;obtain⟨z,J,O⟩:=wC Y h;refine⟨z,J,fun A=>pN.of_does (O A _ (some (a.eval lo)) (some (a.eval E)) (I A _ (ev x (by simp))) ?_ (by simp) ?_ (by simp)) (fun o X=>by grind[execOp])⟩
    all_goals grind
   | none=>
    obtain⟨U,h,Z⟩:=bF (S:=S) (w:=w) h;obtain⟨z,J,O⟩:=wC Y h;refine⟨z,J,fun A=>pN.of_does (O A _ (some (a.eval lo)) none (I A _ (ev x (by simp))) ?_ (by simp) (by simp) (by simp)) (fun o X=>by grind[execOp])⟩
    grind
  | none=>
   cases E with
   | some E=>
    obtain⟨T,h,F⟩:=bF (S:=S) (w:=w) h;obtain⟨z,J,O⟩:=wC Y h;refine⟨z,J,fun A=>pN.of_does (O A _ none (some (a.eval E)) (I A _ (ev x (by simp))) (by simp) (by simp) ?_ (by simp)) (fun o X=>by grind[execOp])⟩
    grind
   | none=>grind
end
end Go.Aw
end
section
namespace Go.Aw
def apM:Array Value:=(Go.Lib.pow10Tab.map fun z=>Value.int .u64 z).toArray
def akX:Array Value:=(Go.Lib.deBruijn64tab.map fun z:Nat=>Value.int .u8 (z:Int)).toArray
def aiN:List (Nat×Array Value):=[(1,apM),(3,akX)]
end Go.Aw
end
section
namespace Go.Aw
open Go.RowKit
def wT(w:World)(g:Nat):Option (Array Value):=match w.heap[g]? with
 | some (.cells cs _ _)=>some cs
 | _=>none
def QV(S:Sg)(w:World):Prop:=∀t∈aiN,S.ro t.1/\wT w t.1=some t.2
def QV.keep{S S':Sg}{w w':World}(h:QV S w)(A:S.le S')(F:iT S w w'):QV S' w':=fun t E=>⟨A.ro _ (h t E).1,by unfold wT;rw[F t.1 (h t E).1];exact(h t E).2⟩
structure St(S:Sg)(w:World)(H:aM):Prop where
 ι:∀k,S.ro k->S.fz k
 l9:∀k,S.fz k->k<w.heap.size
 rows:Cj S w H
 free:∀k r,H k=some r->∀g,blk (S.loc k)=some g->¬S.fz g
 disj:∀k k' r r',H k=some r->H k'=some r'->k≠k'->∀g,blk (S.loc k)=some g->blk (S.loc k')≠some g
 tabs:QV S w
structure Grow(S:Sg)(w:World)(S':Sg)(w':World):Prop where
 le:S.le S'
 fz:∀k,S.fz k->S'.fz k
 os:w'.os=w.os
 tape:w'.tape=w.tape
 output:w'.output=w.output
 size:w.heap.size<=w'.heap.size
 same:∀k,S.fz k->w'.heap[k]?=w.heap[k]?
 newro:∀k,S'.ro k->S.ro k\/¬S.fz k
theorem Grow.refl(S:Sg)(w:World):Grow S w S w:=⟨S.le_refl,fun _ h=>h,rfl,rfl,rfl,Nat.le_refl _,fun _ _=>rfl,fun _ h=>.inl h⟩
def Grow.trans{S S' F:Sg}{w w' I:World}(h:Grow S w S' w')(A:Grow S' w' F I):Grow S w F I:=
 ⟨Sg.le_trans h.le A.le,fun k E=>A.fz k (h.fz k E),A.os.trans h.os,A.tape.trans h.tape,A.output.trans h.output,Nat.le_trans h.size A.size,
  fun k E=>(A.same k (h.fz k E)).trans (h.same k E),
  fun k E=>by rcases A.newro k E with h1|h1;exact h.newro k h1;exact .inr fun J=>h1 (h.fz k J)⟩
def hY(N:Nat)(H H':aM):Prop:=∀k,k<N->H k=none->H' k=none
theorem hY.refl(N:Nat)(H:aM):hY N H H:=fun _ _ h=>h
def hY.trans{N E:Nat}{H H' A:aM}(h:hY N H H')(I:hY E H' A)(J:N<=E):hY N H A:=fun k F h0=>I k (Nat.lt_of_lt_of_le F J) (h k F h0)
section
variable{S S':Sg}{w w':World}{H H':aM}
def St.kept(F:St S w H)(E:∀k,S.fz k->w'.heap[k]?=w.heap[k]?):iT S w w':=fun k A=>E k (F.ι k A)
def Grow.kept(E:St S w H)(A:Grow S w S' w'):iT S w w':=E.kept A.same
def St.fresh(A:St S w H):H S.N=none:=by
 cases h:H S.N with
 | none=>rfl
 | some r=>exact absurd (A.rows _ r h).lt (Nat.lt_irrefl _)
def RowOK.block_lt{k:Nat}{r:Row}(h:RowOK S w k r){g:Nat}(A:blk (S.loc k)=some g):g<w.heap.size:=by
 rcases h.own with⟨xs,E,_⟩|⟨F,ms,h1,I,_⟩
 ·refine(E.lt g ?_).2;rcases E.2 with⟨hv,_⟩|⟨_,_,_,hv,_⟩ <;> (rw[hv]at A |-;exact A)
 ·rw[h1]at A;injection A with A
  grind
def GX(A:S.le S')(E:iT S w w'):∀(i:Nat) (es:List (List AV)) (ms:List MapEntry),pH S w i es ms->pH S' w' i es ms
 | _,[],_,h=>h
 | i,cs::r,ms,h=>by simp only[pH]at h |-;obtain⟨m,t,rfl,h1,I,F⟩:=h;exact⟨m,t,rfl,h1,fQ A E _ _ I,GX A E (i+1) r t F⟩
def RowOK.keep{k:Nat}{r:Row}(h:RowOK S w k r)(A:S.le S')(O:iT S w w')(T:∀g,blk (S.loc k)=some g->w'.heap[g]?=w.heap[g]?):RowOK S' w' k r:=by
 refine⟨Nat.lt_of_lt_of_le h.lt A.N,by rw[A.sz k h.lt];exact h.sz,h.pos,h.len,?_⟩;rcases h.own with⟨xs,F,U,h1⟩|⟨g,ms,h1,J,E⟩
 ·refine .inl ?_;unfold Ru;rw[A.loc k h.lt];refine⟨xs,⟨F.1,?_⟩,fQ A O _ _ U,h1⟩;rcases F.2 with J|⟨g,cap,cur,I,E,X,Y⟩
  ·grind
  ·exact .inr ⟨g,cap,cur,I,E,by rw[T g (by rw[I];rfl)];exact X,Y⟩
 ·refine .inr ⟨g,ms,?_,?_,GX A O 0 _ _ E.1,E.2⟩
  ·rw[A.loc k h.lt];exact h1
  ·rw[T g (by rw[h1];rfl)];exact J
def FR.keep{ρ:Env}{a:Act}(h:FR S w ρ a)(A:S.le S')(E:iT S w w'):FR S' w' ρ a:=fun t F=>oY A E _ _ (h t F)
def FR.put{ρ:Env}{a:Act}(h:FR S w ρ a){d:Option Nat}{z:AV}{v:Value}(I:rep S w z v):FR S w (upd ρ d z) (a.put d v):=by
 intro t E;cases d with
 | none=>exact h t E
 | some d=>
  simp only[Act.put,upd]at E |-;have A:t<a.tmps.size:=by grind
  by_cases e:t=d
  ·simp_all
  ·have h1:=h t A;have F:d≠t:=fun h=>e h.symm
   simp only[if_neg e];have:(a.tmps.setIfInBounds d v).getD t undef=a.tmps.getD t undef:=by simp[Array.getD_eq_getD_getElem?,F]
   rw[this];exact h1
def Sg.addRow(S:Sg)(v:Value)(sz:Nat):Sg:={ S with loc:=fun k=>if k=S.N then v else S.loc k,sz:=fun k=>if k=S.N then sz else S.sz k,N:=S.N+1 }
def Sg.le_addRow(S:Sg)(v:Value)(sz:Nat):S.le (S.addRow v sz):=
 ⟨fun _ h=>h,Nat.le_succ _,fun k A=>by grind[Sg.addRow],fun k A=>by grind[Sg.addRow]⟩
def wH{k:Nat}{r:Option Row}:aI H k r k=r:=aB H k r
def St.newRow(E:St S w H){e:TypeId}{sz cap:Nat}{es:List (List AV)}{xs:List Value}{cur:Array Value}(al:0<sz)(af:∀cs∈es,cs.length=sz)
  (hr:bR S w es.flatten xs) (h1:∀u∈xs,u.oneCell'=true) (hn:es.length<=cap) (ak:cap<=maxLen) (ah:cur.size=cap*sz) (ac:cur.toList.take (es.length*sz)=xs) {w':World}
  (hw:w'.heap=w.heap.push (.cells cur e)) (am:w'.os=w.os) (ab:w'.tape=w.tape) (ai:w'.output=w.output):
  St (S.addRow (.slice (some ⟨w.heap.size,0,none⟩) es.length cap) sz) w' (aI H S.N (some ⟨e,sz,es⟩))/\Grow S w (S.addRow (.slice (some ⟨w.heap.size,0,none⟩) es.length cap) sz) w':=by
 have T:∀k,k<w.heap.size->w'.heap[k]?=w.heap[k]?:=fun k F=>by grind
 have ae:w'.heap[w.heap.size]?=some (.cells cur e (0,0)):=by grind
 have an:w'.heap.size=w.heap.size+1:=by grind
 have aa:=S.le_addRow (.slice (some ⟨w.heap.size,0,none⟩) es.length cap) sz;have U:iT S w w':=fun k F=>T k (E.l9 k (E.ι k F))
 have A:(S.addRow (.slice (some ⟨w.heap.size,0,none⟩) es.length cap) sz).loc S.N=.slice (some ⟨w.heap.size,0,none⟩) es.length cap:=by simp[Sg.addRow]
 have Y:∀k,k<S.N->(S.addRow (.slice (some ⟨w.heap.size,0,none⟩) es.length cap) sz).loc k=S.loc k:=aa.loc;have J:∀k r,k≠S.N->aI H S.N (some ⟨e,sz,es⟩) k=some r->H k=some r:=fun k r F h=>by grind[aF]
 refine⟨⟨E.ι,fun k F=>by have:=E.l9 k F;omega,?_,?_,?_,E.tabs.keep aa U⟩,⟨aa,fun _ h=>h,am,ab,ai,by omega,fun k F=>T k (E.l9 k F),fun _ h=>.inl h⟩⟩
 ·intro k r F;by_cases e0:k=S.N
  ·subst e0;rw[wH]at F;injection F with F;subst F;refine⟨Nat.lt_succ_self _,by simp[Sg.addRow],al,af,.inl ⟨xs,⟨?_,.inr ⟨w.heap.size,cap,cur,A,Nat.zero_le _,ae,hn,ak,ah,ac⟩⟩,fQ aa U _ _ hr,h1⟩⟩
   grind[jE,qI]
  ·have I:=J k r e0 F;exact(E.rows k r I).keep aa U fun g X=>T g ((E.rows k r I).block_lt X)
 ·intro k r F g X;by_cases e0:k=S.N
  ·subst e0;rw[A]at X;simp only[blk,Option.some.injEq]at X;subst X;exact fun h=>Nat.lt_irrefl _ (E.l9 _ h)
  ·have I:=J k r e0 F;rw[Y k (E.rows k r I).lt]at X;exact E.free k r I g X
 ·intro k k' r r' F I ag g X O;by_cases e0:k=S.N
  ·subst e0;rw[A]at X;simp only[blk,Option.some.injEq]at X;subst X;have Z:=J k' r' (Ne.symm ag) I;rw[Y k' (E.rows k' r' Z).lt]at O;exact Nat.lt_irrefl _ ((E.rows k' r' Z).block_lt O)
  ·have Z:=J k r e0 F;rw[Y k (E.rows k r Z).lt]at X;by_cases e1:k'=S.N
   ·subst e1;rw[A]at O;simp only[blk,Option.some.injEq]at O;subst O;exact Nat.lt_irrefl _ ((E.rows k r Z).block_lt X)
   ·have aj:=J k' r' e1 I;rw[Y k' (E.rows k' r' aj).lt]at O;exact E.disj k k' r r' Z aj ag g X O
def St.newMap(F:St S w H){w':World}(hw:w'.heap=w.heap.push (.map #[] 0))(ag:w'.os=w.os)(aa:w'.tape=w.tape)(ac:w'.output=w.output):
  St (S.addRow (.map (some w.heap.size)) 2) w' (aI H S.N (some ⟨0,2,[]⟩))/\Grow S w (S.addRow (.map (some w.heap.size)) 2) w':=by
 have O:∀k,k<w.heap.size->w'.heap[k]?=w.heap[k]?:=fun k I=>by grind
 have ab:w'.heap[w.heap.size]?=some (.map #[] 0):=by grind
 have ah:w'.heap.size=w.heap.size+1:=by grind
 have U:=S.le_addRow (.map (some w.heap.size)) 2;have Z:iT S w w':=fun k I=>O k (F.l9 k (F.ι k I))
 have A:(S.addRow (.map (some w.heap.size)) 2).loc S.N=.map (some w.heap.size):=by simp[Sg.addRow]
 have E:∀k r,k≠S.N->aI H S.N (some ⟨0,2,[]⟩) k=some r->H k=some r:=fun k r I h=>by grind[aF]
 refine⟨⟨F.ι,fun k I=>by have:=F.l9 k I;omega,?_,?_,?_,F.tabs.keep U Z⟩,⟨U,fun _ h=>h,ag,aa,ac,by omega,fun k I=>O k (F.l9 k I),fun _ h=>.inl h⟩⟩
 ·intro k r I;by_cases e0:k=S.N
  ·subst e0;rw[wH]at I;injection I with I;subst I;exact⟨Nat.lt_succ_self _,by simp[Sg.addRow],by simp,by simp,.inr ⟨w.heap.size,[],A,ab,by rfl,rfl⟩⟩
  ·have J:=E k r e0 I;exact(F.rows k r J).keep U Z fun g X=>O g ((F.rows k r J).block_lt X)
 ·intro k r I g X;by_cases e0:k=S.N
  ·subst e0;rw[A]at X;simp only[blk,Option.some.injEq]at X;subst X;exact fun h=>Nat.lt_irrefl _ (F.l9 _ h)
  ·have J:=E k r e0 I;rw[U.loc k (F.rows k r J).lt]at X;exact F.free k r J g X
 ·intro k k' r r' I J af g X T;by_cases e0:k=S.N
  ·subst e0;rw[A]at X;simp only[blk,Option.some.injEq]at X;subst X;have Y:=E k' r' (Ne.symm af) J;rw[U.loc k' (F.rows k' r' Y).lt]at T;exact Nat.lt_irrefl _ ((F.rows k' r' Y).block_lt T)
  ·have Y:=E k r e0 I;rw[U.loc k (F.rows k r Y).lt]at X;by_cases e1:k'=S.N
   ·subst e1;rw[A]at T;simp only[blk,Option.some.injEq]at T;subst T;exact Nat.lt_irrefl _ ((F.rows k r Y).block_lt X)
   ·have ae:=E k' r' e1 J;rw[U.loc k' (F.rows k' r' ae).lt]at T;exact F.disj k k' r r' Y ae af g X T
def St.setMap(J:St S w H){k g:Nat}{r:Row}(hk:H k=some r)(hl:S.loc k=.map (some g)){ms:List MapEntry}{es:List (List AV)}(he:pH S w 0 es ms)(h2:r.sz=2)(ag:g<w.heap.size):
  St S { w with heap:=w.heap.setIfInBounds g (.map ms.toArray ms.length) } (aI H k (some { r with es:=es }))/\Grow S w S { w with heap:=w.heap.setIfInBounds g (.map ms.toArray ms.length) }:=by
 have hR:=J.rows k r hk;have Z:¬S.fz g:=J.free k r hk g (by rw[hl];rfl);have E:∀j,j≠g->(w.heap.setIfInBounds g (.map ms.toArray ms.length))[j]?=w.heap[j]?:=fun j A=>by grind
 have aa:(w.heap.setIfInBounds g (.map ms.toArray ms.length))[g]?=some (.map ms.toArray ms.length):=by grind
 have F:iT S w { w with heap:=w.heap.setIfInBounds g (.map ms.toArray ms.length) }:=fun j A=>E j (fun e=>Z (e▸J.ι j A))
 have p:∀j r',aI H k (some { r with es:=es }) j=some r'->∃U,H j=some U:=fun j r' A=>by grind[aF]
 have ab:∀(i:Nat) (es:List (List AV)) (ms:List MapEntry),pH S w i es ms->∀cs∈es,cs.length=2:=by
  intro i es;induction es generalizing i with
  | nil=>simp
  | cons c es ih=>
   intro ms h cs O;simp only[pH]at h;obtain⟨m,t,rfl,_,h4,h5⟩:=h;rcases List.mem_cons.1 O with rfl|O
   ·have:=jE _ _ h4;grind
   grind
 refine⟨⟨J.ι,fun j A=>by simpa using J.l9 j A,?_,?_,?_,J.tabs.keep S.le_refl F⟩,⟨S.le_refl,fun _ h=>h,rfl,rfl,rfl,by simp,fun j A=>E j (fun e=>Z (e▸A)),fun _ h=>.inl h⟩⟩
 ·intro j r' A;by_cases e:j=k
  ·subst e;rw[wH]at A;injection A with A;subst A;exact⟨hR.lt,hR.sz,hR.pos,fun cs O=>(ab 0 es ms he cs O).trans h2.symm,.inr ⟨g,ms,hl,aa,GX S.le_refl F 0 _ _ he,h2⟩⟩
  ·rw[aF _ _ _ _ e]at A;exact(J.rows j r' A).keep S.le_refl F fun X I=>E X (fun e'=>J.disj j k r' r A hk e X I (by rw[hl,e'];rfl))
 ·intro j r' A X I;obtain⟨U,T⟩:=p j r' A;exact J.free j U T X I
 ·intro j j' r1 r2 A T Y X I ac;obtain⟨q1,ae⟩:=p j r1 A;obtain⟨q2,af⟩:=p j' r2 T;exact J.disj j j' q1 q2 ae af Y X I ac
def St.nilRow(J:St S w H)(e:TypeId){sz:Nat}(aa:0<sz):
  St (S.addRow (.slice none 0 0) sz) w (aI H S.N (some ⟨e,sz,[]⟩))/\Grow S w (S.addRow (.slice none 0 0) sz) w:=by
 have F:=S.le_addRow (.slice none 0 0) sz;have O:(S.addRow (.slice none 0 0) sz).loc S.N=.slice none 0 0:=by simp[Sg.addRow]
 have A:∀k r,k≠S.N->aI H S.N (some ⟨e,sz,[]⟩) k=some r->H k=some r:=fun k r I h=>by grind[aF]
 refine⟨⟨J.ι,J.l9,?_,?_,?_,J.tabs.keep F (iT.refl S w)⟩,⟨F,fun _ h=>h,rfl,rfl,rfl,Nat.le_refl _,fun _ _=>rfl,fun _ h=>.inl h⟩⟩
 ·intro k r I;by_cases T:k=S.N
  ·subst T;rw[wH]at I;injection I with I;subst I;refine⟨Nat.lt_succ_self _,by simp[Sg.addRow],aa,by simp,.inl ⟨[],⟨by simp,.inl ⟨O,rfl⟩⟩,by rfl,by simp⟩⟩
  ·have E:=A k r T I;exact(J.rows k r E).keep F (iT.refl S w) fun _ _=>rfl
 ·intro k r I g X;by_cases T:k=S.N
  ·grind[blk]
  ·have E:=A k r T I;rw[F.loc k (J.rows k r E).lt]at X;exact J.free k r E g X
 ·intro k k' r r' I E ab g X Y;by_cases T:k=S.N
  ·grind[blk]
  ·have Z:=A k r T I;rw[F.loc k (J.rows k r Z).lt]at X;by_cases e1:k'=S.N
   ·grind[blk]
   ·have U:=A k' r' e1 E;rw[F.loc k' (J.rows k' r' U).lt]at Y;exact J.disj k k' r r' Z U ab g X Y
def Sg.addRo(S:Sg)(g:Nat):Sg:={ S with ro:=fun k=>S.ro k\/k=g,fz:=fun k=>S.fz k\/k=g }
def Sg.le_addRo(S:Sg)(g:Nat):S.le (S.addRo g):=⟨fun _ h=>.inl h,Nat.le_refl _,fun _ _=>rfl,fun _ _=>rfl⟩
def St.newRo(F:St S w H){o:Obj}{w':World}(hw:w'.heap=w.heap.push o)(Y:w'.os=w.os)(J:w'.tape=w.tape)(U:w'.output=w.output):
  St (S.addRo w.heap.size) w' H/\Grow S w (S.addRo w.heap.size) w':=by
 have E:∀k,k<w.heap.size->w'.heap[k]?=w.heap[k]?:=fun k A=>by grind
 have Z:w'.heap.size=w.heap.size+1:=by grind
 have O:=S.le_addRo w.heap.size;have I:iT S w w':=fun k A=>E k (F.l9 k (F.ι k A))
 refine⟨⟨fun k A=>A.imp (F.ι k) id,fun k A=>?_,fun k r A=>(F.rows k r A).keep O I fun g X=>E g ((F.rows k r A).block_lt X),fun k r A g X T=>?_,F.disj,F.tabs.keep O I⟩,
  ⟨O,fun _ h=>.inl h,Y,J,U,by omega,fun k A=>E k (F.l9 k A),fun k A=>A.imp id (fun e T=>by have:=F.l9 k T;omega)⟩⟩
 ·rcases A with A|A
  ·have:=F.l9 k A;omega
  ·omega
 ·rcases T with T|T
  ·exact F.free k r A g X T
  ·have:=(F.rows k r A).block_lt X;omega
def RowOK.open{k:Nat}{r:Row}(h:RowOK S w k r){E:Option Addr}{F J:Nat}(A:S.loc k=.slice E F J)(O:r.es≠[]):∃g cap cur,S.loc k=.slice (some ⟨g,0,none⟩) r.es.length cap/\w.heap[g]?=some (.cells cur r.e (0,0))/\r.es.length<=cap/\cap<=maxLen/\cur.size=cap*r.sz /\
  bR S w r.es.flatten (cur.toList.take (r.es.length*r.sz))/\∀u∈cur.toList.take (r.es.length*r.sz),u.oneCell'=true:=by
 obtain⟨xs,I,Y,h1⟩:=h.sl A;rcases I.2 with⟨_,T⟩|⟨g,cap,cur,U,_,h2,X,Z,h5,h6⟩
 all_goals grind
def C0:∀(es:List (List AV)) (i:Nat) (cs:List AV) {sz:Nat},(∀c∈es,c.length=sz)->i<es.length->cs.length=sz ->
  (es.set i cs).flatten=es.flatten.take (i*sz)++cs++es.flatten.drop (i*sz+sz)
 | [],_,_,_,_,h,_=>by grind
 | x::r,0,cs,sz,hl,_,A=>by grind
 | x::r,i+1,cs,sz,hl,hi,A=>by
  have F:=hl x (by simp);have ih:=C0 r i cs (fun c A=>hl c (by simp[A])) (by simpa using hi) A;simp only[List.set_cons_succ,List.flatten_cons,ih];have E:(i+1)*sz=x.length+i*sz:=by rw[F,Nat.add_mul];omega
  rw[E,Nat.add_assoc,List.take_append,List.drop_append];simp[List.take_of_length_le,List.drop_eq_nil_of_le]
def St.store(J:St S w H){k:Nat}{r:Row}(hk:H k=some r){i f:Nat}{cs:List AV}{l:List Value}(hi:i<r.es.length)(hf:f+cs.length<=r.sz){al:Option Addr}{n0 c0:Nat}(ao:S.loc k=.slice al n0 c0)
   (hr:bR S w cs l) (h1:∀u∈l,u.oneCell'=true):
   ∃g n c w',S.loc k=.slice (some ⟨g,0,none⟩) n c/\(∀P:Program,(storeCells ⟨g,i*r.sz+f,none⟩ l).run P w=.ok () w') /\
     St S w' (aI H k (some { r with es:=r.es.set i (qF (r.es.getD i []) f cs) }))/\Grow S w S w':=by
 have T:=J.rows k r hk;have ah:r.es≠[]:=fun e=>by grind
 obtain⟨g,cap,cur,F,hg,af,ai,av,Y,au⟩:=T.open ao ah;have aw:=jE _ _ hr;have ac:(i+1)*r.sz<=r.es.length*r.sz:=Nat.mul_le_mul_right _ hi;have ap:r.es.length*r.sz<=cap*r.sz:=Nat.mul_le_mul_right _ af;rw[Nat.add_mul,Nat.one_mul]at ac;have ab:∀P:Program,_:=fun P=>run_storeCells_at (P:=P) g (i*r.sz+f) r.e l 0 cur w hg (by omega) h1
 simp only[Nat.add_zero]at ab;refine⟨g,_,cap,_,F,ab,?_,?_⟩
 . have O:∀j,j≠g->(w.setRow g (List.take (i*r.sz+f) cur.toList++l++List.drop (i*r.sz+f+l.length) cur.toList).toArray).heap[j]?=w.heap[j]?:=fun j A=>setRow_other w g j _ A
   have aj:¬S.fz g:=J.free k r hk g (by rw[F];rfl);have E:iT S w (w.setRow g (List.take (i*r.sz+f) cur.toList++l++List.drop (i*r.sz+f+l.length) cur.toList).toArray):=fun j A=>O j (fun e=>aj (e▸J.ι j A))
   have Z:(r.es.getD i []).length=r.sz:=by simp only[List.getD,List.getElem?_eq_getElem hi,Option.getD_some];exact T.len _ (List.getElem_mem hi)
   have X:(qF (r.es.getD i []) f cs).length=r.sz:=by grind[qF]
   have e2 : List.take (r.es.length * r.sz) (List.take (i * r.sz + f) cur.toList ++ l ++ List.drop (i * r.sz + f + l.length) cur.toList) =
       (cur.toList.take (r.es.length*r.sz)).take (i*r.sz+f)++l++(cur.toList.take (r.es.length*r.sz)).drop (i*r.sz+f+l.length):=by
     rw[List.take_take,Nat.min_eq_left (by omega),List.drop_take];rw[List.take_append,List.take_append];simp only[List.length_append,List.length_take,Array.length_toList];rw[Nat.min_eq_left (by omega:i*r.sz+f<=cur.size)]
     grind[List.take_of_length_le]
   refine⟨J.ι,fun j A=>by simpa using J.l9 j A,?_,?_,?_,J.tabs.keep S.le_refl E⟩
   . intro j r' A;by_cases e:j=k
     . subst e;rw[wH]at A;injection A with A;subst A;refine⟨T.lt,T.sz,T.pos,?_,.inl ?_⟩
       . intro c hc;rcases List.mem_or_eq_of_mem_set hc with hc|rfl
         . exact T.len c hc
         omega
       . refine⟨(List.take (i*r.sz+f) cur.toList++l++List.drop (i*r.sz+f+l.length) cur.toList).take (r.es.length*r.sz),⟨?_,.inr ⟨g,cap,_,by grind,Nat.zero_le _,setRow_heap w g cur _ _ _ hg,by grind,ai,?_,by simp⟩⟩,?_,?_⟩
         . grind
         . simp_all;omega
         . have hx:=(fQ (S.le_refl) E _ _ Y);have hy:=(fQ (S.le_refl) E _ _ hr);have e1:(r.es.set i (qF (r.es.getD i []) f cs)).flatten=r.es.flatten.take (i*r.sz+f)++cs++r.es.flatten.drop (i*r.sz+f+l.length):=by
             rw[C0 r.es i _ T.len hi X];have am:r.es.flatten.length=r.es.length*r.sz:=qI _ T.len;have aa:r.es.getD i []=(r.es.flatten.drop (i*r.sz)).take r.sz:=by
               have h0:=C0 r.es i (r.es.getD i []) T.len hi Z;have hs:r.es.set i (r.es.getD i [])=r.es:=by simp_all
               rw[hs]at h0;have h3:(r.es.flatten.drop (i*r.sz)).take r.sz=((r.es.flatten.take (i*r.sz)++r.es.getD i []++r.es.flatten.drop (i*r.sz+r.sz)).drop (i*r.sz)).take r.sz:=by grind
               rw[h3,List.append_assoc,List.drop_append_of_le_length (by rw[List.length_take];omega)]
               grind
             rw[aa,qF];have a1:List.take (i*r.sz+f) r.es.flatten=r.es.flatten.take (i*r.sz)++((r.es.flatten.drop (i*r.sz)).take r.sz).take f:=by rw[List.take_take,Nat.min_eq_left (by omega),List.take_add]
             grind[List.drop_take,List.drop_drop,List.take_append_drop]
           grind[fZ,wI,wN]
         grind
     . rw[aF _ _ _ _ e]at A;exact(J.rows j r' A).keep S.le_refl E fun U I=>O U (fun e'=>J.disj j k r' r A hk e U I (by rw[F,e'];rfl))
   . intro j r' A U I;by_cases e:j=k
     . subst e;exact J.free j r hk U I
     . rw[aF _ _ _ _ e]at A;exact J.free j r' A U I
   . intro j j' r1 r2 A ag ae U I an;have p:∀j r',aI H k (some { r with es:=r.es.set i (qF (r.es.getD i []) f cs) }) j=some r'->∃aq,H j=some aq:=fun j r' A=>by grind[aF]
     obtain⟨q1,ak⟩:=p j r1 A;obtain⟨q2,ar⟩:=p j' r2 ag;exact J.disj j j' q1 q2 ak ar ae U I an
 . refine⟨S.le_refl,fun _ h=>h,rfl,rfl,rfl,by simp,fun j A=>setRow_other w g j _ (fun e=>J.free k r hk g (by rw[F];rfl) (e▸A)),fun _ h=>.inl h⟩
end
end Go.Aw
end
section
namespace Go.Aw
open Go.RowKit
section
variable{P:Program}{S S':Sg}{w w':World}{H H':aM}
def yM(S:Sg)(w:World)(u:Value)(news:List (List AV)):Prop:=
 ∃ad c l,u=.slice ad news.length c/\bR S w news.flatten l/\(∀x∈l,x.oneCell'=true) /\
   (news=[]\/∃b o,ad=some ⟨b,o,none⟩/\∀j x,l[j]?=some x->w.cell? ⟨b,o+j,none⟩=some x)
theorem G8{es:List (List AV)}{u:Value}(h:rep S w (.sl es) u):yM S w u es:=by
 simp only[rep]at h;obtain⟨ad,n,c,rfl,rfl,_,_,F⟩:=h;rcases F with rfl|⟨b,o,sz,rfl,U,O,A⟩
 ·exact⟨ad,c,[],rfl,by rfl,by simp,.inl rfl⟩
 ·obtain⟨l,T,E,I,J⟩:=pD _ _ (Bs es o A);exact⟨_,c,l,rfl,E,I,.inr ⟨b,o,rfl,J⟩⟩
def GY{k:Nat}{r:Row}(h:RowOK S w k r){O:Option Addr}{J Y:Nat}(T:S.loc k=.slice O J Y):yM S w (S.loc k) r.es:=by
 obtain⟨xs,A,I,h1⟩:=h.sl T;rcases A.2 with⟨E,F⟩|⟨g,cap,cur,E,_⟩
 ·have U:=List.eq_nil_of_length_eq_zero F;have Z:xs=[]:=List.eq_nil_of_length_eq_zero (by rw[A.1,F];simp);exact⟨none,0,xs,by grind,I,h1,.inl U⟩
 ·refine⟨some ⟨g,0,none⟩,cap,xs,E,I,h1,.inr ⟨g,0,rfl,fun j x X=>?_⟩⟩;have:=A.cells (g:=g) (by rw[E];rfl) j x X
  grind[Addr.add_lit]
def Dl{k a b:Nat}{r:Row}{u:Value}(Y:RowOK S w k r)(hu:rep S w (.oz k a b) u):yM S w u ((r.es.take b).drop a)/\b<=r.es.length/\a<=b:=by
 simp only[rep]at hu;obtain⟨_,ad,n,c,X,cc,A,rfl,U,T,O,_,aa,_⟩:=hu;obtain⟨xs,ho,hr,h1⟩:=Y.sl A;have hn:n=r.es.length:=by
  rcases ho.2 with⟨hv,hn⟩|⟨g,cap,cur,hv,_⟩
  all_goals grind
 subst hn;refine⟨?_,T,U⟩;have E:((r.es.take b).drop a).length=b-a:=by grind
 rcases Nat.lt_or_ge a b with ab|ac
 ·obtain⟨g,rfl,rfl⟩:=O (by omega);have Z:r.es≠[]:=fun e=>by grind
  obtain⟨g',n',c',J,I,_⟩:=Y.els A Z;rw[A]at J;injection J with F _ _;injection F with F;injection F with F;subst F;have h2:=E2 _ 0 a (Bv r.es 0 b I);rw[Nat.zero_add,Y.sz]at h2;obtain⟨l,q1,q2,q3,q4⟩:=pD _ _ (Bs _ _ h2);exact⟨_,cc,l,by rw[E],q2,q3,.inr ⟨g,a*S.sz k,rfl,q4⟩⟩
 ·have he:(r.es.take b).drop a=[]:=List.eq_nil_of_length_eq_zero (by omega);exact⟨X,cc,[],by rw[E],by grind[bR],by simp,.inl he⟩
def Bf:∀(es:List (List AV)) (a:Nat) {sz:Nat},(∀c∈es,c.length=sz)->(es.take a).flatten=es.flatten.take (a*sz)
 | [],_,_,_=>by simp
 | x::r,0,_,_=>by simp
 | x::r,a+1,sz,hl=>by simp_all[Bf,Nat.add_mul,List.take_append,List.take_of_length_le]
def By:∀(es:List (List AV)) (a:Nat) {sz:Nat},(∀c∈es,c.length=sz)->(es.drop a).flatten=es.flatten.drop (a*sz)
 | [],_,_,_=>by simp
 | x::r,0,_,_=>by simp
 | x::r,a+1,sz,hl=>by simp_all[By,Nat.add_mul,List.drop_append]
def St.storeE(J:St S w H){k:Nat}{r:Row}(hk:H k=some r){a:Nat}{news:List (List AV)}{l:List Value}(au:∀c∈news,c.length=r.sz)(ha:a+news.length<=r.es.length)(ac:r.es≠[]){aq:Option Addr}{n0 c0:Nat}(al:S.loc k=.slice aq n0 c0)
   (hr:bR S w news.flatten l) (h1:∀u∈l,u.oneCell'=true):
   ∃g n c w',S.loc k=.slice (some ⟨g,0,none⟩) n c/\(∀P:Program,(storeCells ⟨g,a*r.sz,none⟩ l).run P w=.ok () w') /\
     St S w' (aI H k (some { r with es:=r.es.take a++news++r.es.drop (a+news.length) }))/\Grow S w S w':=by
 have U:=J.rows k r hk;obtain⟨g,cap,cur,F,hg,ae,ai,av,Z,ar⟩:=U.open al ac;have aj:l.length=news.length*r.sz:=by grind[jE,qI]
 have aa:(a+news.length)*r.sz<=r.es.length*r.sz:=Nat.mul_le_mul_right _ ha;have am:r.es.length*r.sz<=cap*r.sz:=Nat.mul_le_mul_right _ ae;rw[Nat.add_mul]at aa;have Y:∀P:Program,_:=fun P=>run_storeCells_at (P:=P) g (a*r.sz) r.e l 0 cur w hg (by omega) h1
 simp only[Nat.add_zero]at Y;refine⟨g,_,cap,_,F,Y,?_,?_⟩
 . have O:∀j,j≠g->(w.setRow g (List.take (a*r.sz) cur.toList++l++List.drop (a*r.sz+l.length) cur.toList).toArray).heap[j]?=w.heap[j]?:=fun j A=>setRow_other w g j _ A
   have ak:¬S.fz g:=J.free k r hk g (by rw[F];rfl);have E:iT S w (w.setRow g (List.take (a*r.sz) cur.toList++l++List.drop (a*r.sz+l.length) cur.toList).toArray):=fun j A=>O j (fun e=>ak (e▸J.ι j A))
   have ah:(r.es.take a++news++r.es.drop (a+news.length)).length=r.es.length:=by grind
   have e2 : List.take (r.es.length * r.sz) (List.take (a * r.sz) cur.toList ++ l ++ List.drop (a * r.sz + l.length) cur.toList) =
       (cur.toList.take (r.es.length*r.sz)).take (a*r.sz)++l++(cur.toList.take (r.es.length*r.sz)).drop (a*r.sz+l.length):=by
     rw[List.take_take,Nat.min_eq_left (by omega),List.drop_take];rw[List.take_append,List.take_append]
     grind[List.take_of_length_le]
   refine⟨J.ι,fun j A=>by simpa using J.l9 j A,?_,?_,?_,J.tabs.keep S.le_refl E⟩
   . intro j r' A;by_cases e:j=k
     . subst e;rw[wH]at A;injection A with A;subst A;refine⟨U.lt,U.sz,U.pos,?_,.inl ?_⟩
       . intro c T;rcases List.mem_append.1 T with T|T
         . rcases List.mem_append.1 T with T|T
           . exact U.len c (List.mem_of_mem_take T)
           grind
         . exact U.len c (List.mem_of_mem_drop T)
       . refine⟨(List.take (a*r.sz) cur.toList++l++List.drop (a*r.sz+l.length) cur.toList).take (r.es.length*r.sz),⟨?_,.inr ⟨g,cap,_,by grind,Nat.zero_le _,setRow_heap w g cur _ _ _ hg,by grind,ai,?_,by rw[ah]⟩⟩,?_,?_⟩
         . grind
         . simp only[List.size_toArray,List.length_append,List.length_take,List.length_drop,Array.length_toList];omega
         . have hx:=(fQ (S.le_refl) E _ _ Z);have hy:=(fQ (S.le_refl) E _ _ hr);have e1:(r.es.take a++news++r.es.drop (a+news.length)).flatten=r.es.flatten.take (a*r.sz)++news.flatten++r.es.flatten.drop (a*r.sz+l.length):=by rw[List.flatten_append,List.flatten_append,Bf _ _ U.len,By _ _ U.len,Nat.add_mul,aj]
           grind[fZ,wI,wN]
         grind
     . rw[aF _ _ _ _ e]at A;exact(J.rows j r' A).keep S.le_refl E fun X I=>O X (fun e'=>J.disj j k r' r A hk e X I (by rw[F,e'];rfl))
   . intro j r' A X I;by_cases e:j=k
     . subst e;exact J.free j r hk X I
     . rw[aF _ _ _ _ e]at A;exact J.free j r' A X I
   . intro j j' r1 r2 A ag ab X I af;have p:∀j r',aI H k (some { r with es:=r.es.take a++news++r.es.drop (a+news.length) }) j=some r'->∃an,H j=some an:=fun j r' A=>by grind[aF]
     obtain⟨q1,ao⟩:=p j r1 A;obtain⟨q2,ap⟩:=p j' r2 ag;exact J.disj j j' q1 q2 ao ap ab X I af
 . refine⟨S.le_refl,fun _ h=>h,rfl,rfl,rfl,by simp,fun j A=>setRow_other w g j _ (fun e=>J.free k r hk g (by rw[F];rfl) (e▸A)),fun _ h=>.inl h⟩
theorem abC{k:Nat}{r:Row}(A:H k=some r):aI H k (some r)=H:=by grind[aB,aF]
def St.copy(hS:St S w H){k:Nat}{r:Row}(hk:H k=some r){t e sz J:Nat}{t' ty:TypeId}(he:cK P t=some (e,sz,J))(ap:r.sz=sz){a n:Nat}(ak:a+n<=r.es.length){x u:Value}{news:List (List AV)}(hu:yM S w u news)(U:cT sz news)
  (hx:∃ad cc,x=.slice ad n cc/\(0<n->∃g n' c',S.loc k=.slice (some ⟨g,0,none⟩) n' c'/\ad=some ⟨g,a*r.sz,none⟩)):
  ∃w',(Builtin.copy_ #[t,t'] ty #[x,u]).run P w=.ok (goInt (min news.length n:Nat)) w'/\St S w' (aI H k (some { r with es:=r.es.take a++news.take (min news.length n)++r.es.drop (a+min news.length n) }))/\Grow S w S w':=by
 obtain⟨aj,z,Z,hi,ah,an,ai,aa,hz,au⟩:=iJ he;obtain⟨ad,cc,rfl,Y⟩:=hx;obtain⟨sa,sc,l,rfl,hl,ag,E⟩:=hu;have I:=jT.1 U;rcases Nat.eq_zero_or_pos (min news.length n)with h0|h0
 ·refine⟨w,?_,?_,Grow.refl S w⟩
  ·have ab:Nat.min news.length n=0:=h0;have af:∀a:Addr,(loadCells a 0).run P w=.ok #[] w:=fun a=>by rfl
   rw[h0];cases ad <;> cases sa <;> simp[Builtin.copy_,run_underlying Z,Builtin.lenOf,Builtin.firstCells,sizeOf,typeInfo,hi,ab,af,storeCells]
  ·rw[h0];have:({ r with es:=r.es.take a++news.take 0++r.es.drop (a+0) }:Row)=r:=by simp
   grind[abC]
 ·have ac:0<n:=by omega
  obtain⟨g,n',c',F,rfl⟩:=Y ac;have O:r.es≠[]:=fun e=>by grind
  have hm:(news.take (min news.length n)).length=min news.length n:=by simp
  have al:(news.take (min news.length n)).flatten=news.flatten.take (min news.length n*sz):=Bf _ _ I;have ae:bR S w (news.take (min news.length n)).flatten (l.take (min news.length n*sz)):=by grind[wI]
  obtain⟨g',n2,c2,w',A,ao,q1,q2⟩:=hS.storeE hk (a:=a) (news:=news.take (min news.length n)) (l:=l.take (min news.length n*sz)) (fun c hc=>by grind) (by omega) O F ae (fun u hu=>ag u (List.mem_of_mem_take hu));rw[F]at A;injection A with T _ _;injection T with T;injection T with T;subst T;rw[hm]at q1;refine⟨w',?_,q1,q2⟩;rcases E with E|⟨b,o,rfl,X⟩
  ·grind
  ·have aq:l.length=news.length*sz:=by grind[jE,qI]
   have ar:(l.take (min news.length n*sz)).length=min news.length n*sz:=by simp_all
   have am:=run_loadCells_list (P:=P) w ⟨b,o,none⟩ (l.take (min news.length n*sz)) (fun j v hj=>by grind[Addr.add_lit]);simp_all[Builtin.copy_,run_underlying,Builtin.lenOf,Builtin.firstCells,sizeOf,typeInfo]
def Df(z:Array Value)(A:0<z.size):∀m,(Builtin.zeroCells z m).toList=(List.replicate m z.toList).flatten
 | 0=>by simp[Builtin.zeroCells]
 | m+1=>by
  have ih:=Df z A m;rw[show List.replicate (m+1) z.toList=List.replicate m z.toList++[z.toList]from List.replicate_succ',List.flatten_append,<-ih];simp only[Builtin.zeroCells,Array.toList_map,Array.toList_range,Nat.add_mul,Nat.one_mul,List.flatten_cons,List.flatten_nil,List.append_nil];rw[List.range_add,List.map_append]
  congr 1
  apply List.ext_getElem
  all_goals simp_all[Nat.mod_eq_of_lt]
def St.clear(hS:St S w H){k:Nat}{r:Row}(hk:H k=some r){t e sz J:Nat}{ty:TypeId}{zs:List AV}(he:cK P t=some (e,sz,J))(Z:dX P e=some zs)(ag:r.sz=sz){a n:Nat}(al:a+n<=r.es.length){x:Value}
  (hx:∃ad cc,x=.slice ad n cc/\(0<n->∃g n' c',S.loc k=.slice (some ⟨g,0,none⟩) n' c'/\ad=some ⟨g,a*r.sz,none⟩)):
  ∃w',(Builtin.clear_ #[t] ty #[x]).run P w=.ok (.tuple #[]) w'/\St S w' (aI H k (some { r with es:=r.es.take a++List.replicate n zs++r.es.drop (a+n) }))/\Grow S w S w':=by
 obtain⟨ai,z,Y,hi,ac,af,ae,aa,hz,ab⟩:=iJ he;obtain⟨i',v,F,E,rfl,aj,ak,h1⟩:=qV Z;rw[hi]at F;injection F with F;subst F;rw[hz]at E;injection E with E;subst E;obtain⟨ad,cc,rfl,X⟩:=hx;rcases Nat.eq_zero_or_pos n with h0|h0
 ·subst h0;refine⟨w,?_,?_,Grow.refl S w⟩
  ·cases ad <;> simp[Builtin.clear_,run_underlying Y]
  ·have:({ r with es:=r.es.take a++List.replicate 0 (z.cells.toList.map uT)++r.es.drop (a+0) }:Row)=r:=by simp
   grind[abC]
 ·obtain⟨g,n',c',I,rfl⟩:=X h0;have U:r.es≠[]:=fun e=>by grind
  have T:∀m,bR S w (List.replicate m (z.cells.toList.map uT)).flatten (List.replicate m z.cells.toList).flatten:=by intro m;induction m<;>grind[bR,fZ,pF]
  obtain⟨g',n2,c2,w',A,ah,q1,q2⟩:=hS.storeE hk (a:=a) (news:=List.replicate n (z.cells.toList.map uT)) (l:=(List.replicate n z.cells.toList).flatten) (fun c hc=>by grind) (by grind) U I (T n) (fun u hu=>by simp_all;grind);rw[I]at A;injection A with O _ _;injection O with O;injection O with O;subst O;rw[List.length_replicate]at q1;refine⟨w',?_,q1,q2⟩;obtain⟨m,rfl⟩:∃m,n=m+1:=⟨n-1,by omega⟩;simp_all[Builtin.clear_,run_underlying,zeroValue,typeInfo,Df]
theorem HK{t ty e:TypeId}{i:TypeInfo}{size n c:Nat}{v:Value}{xs:List Value}(I:P.underlying t=some (.slice e))(F:P.info? e=some i)(A:w.ownsRow 0 e size v n xs):
  (Builtin.append_ #[t,t] ty #[v,.slice none 0 c]).run P w=.ok v w:=by
 rcases A.2 with⟨rfl,rfl⟩|⟨g,cap,cur,rfl,_,_,E,_⟩
 ·simp[Builtin.append_,run_underlying I,sizeOf,typeInfo,F,Builtin.lenOf,Builtin.firstCells]
 ·simp[Builtin.append_,run_underlying I,sizeOf,typeInfo,F,Builtin.lenOf,Builtin.firstCells,E,storeCells]
def wQ{t ty e:TypeId}{i:TypeInfo}{n c c2:Nat}{b ad:Option Addr}(I:P.underlying t=some (.slice e))(F:P.info? e=some i)(E:n<=c):
  (Builtin.append_ #[t,t] ty #[.slice b n c,.slice ad 0 c2]).run P w=.ok (.slice b n c) w:=by
 have A:(Builtin.firstCells i.size 0 (.slice ad 0 c2)).run P w=.ok #[] w:=by
  cases ad with
  | none=>rfl
  | some a=>exact run_firstCells_some (P:=P) w i.size 0 a 0 c2 [] (by simp) (by simp)
 cases b <;> simp[Builtin.append_,run_underlying I,sizeOf,typeInfo,F,Builtin.lenOf,A,E,storeCells]
def St.append(I:St S w H){k:Nat}{r:Row}(hk:H k=some r){an:Option Addr}{n0 c0:Nat}(av:S.loc k=.slice an n0 c0){t ty:TypeId}{O:Nat}(he:cK P t=some (r.e,r.sz,O)){news:List (List AV)}{u:Value}(hu:yM S w u news)
   (ak:cT r.sz news) (hb:(r.es.length+news.length)*O<=140737488355328):
   ∃E w',(Builtin.append_ #[t,t] ty #[S.loc k,u]).run P w=.ok E w'/\(∃a n c,E=.slice a n c) /\
     St (S.addRow E r.sz) w' (aI (aI H k none) S.N (some ⟨r.e,r.sz,r.es++news⟩))/\Grow S w (S.addRow E r.sz) w':=by
 have hR:=I.rows k r hk;obtain⟨al,z,am,hi,ao,ap,af,ah,hz,ax⟩:=iJ he;obtain⟨xs,ho,hr,h1⟩:=hR.sl av;obtain⟨ad,c,l,rfl,hl,aw,az⟩:=hu;have aq:=jT.1 ak;have ar:l.length=news.length*r.sz:=by grind[jE,qI]
 have a4:r.es.length+news.length<=140737488355328:=Nat.le_trans (Nat.le_mul_of_pos_right _ ah) hb;have ay : ∃ E w', (Builtin.append_ #[t, t] ty #[S.loc k, .slice ad news.length c]).run P w = .ok E w' /\ w'.ownsRow 0 r.e r.sz E (r.es.length + news.length) (xs ++ l) /\ w.grownBy w' (blk (S.loc k)) /\
     (blk E=blk (S.loc k)\/blk E=some w.heap.size):=by
   cases ad with
   | none=>
     have hn:news=[]:=by grind
     subst hn;have a6:l=[]:=List.eq_nil_of_length_eq_zero (by grind)
     grind[HK,World.grownBy.refl]
   | some a=>
     have ac:∀j x,l[j]?=some x->w.cell? (a.add j)=some x:=by grind[Addr.add_lit]
     obtain⟨E,w',q1,q2,q3,_,q5⟩:=run_append_own_at (P:=P) w 0 t ty r.e al z r.sz O am hi hz ao ap ax af (S.loc k) r.es.length xs ho a news.length c l ar ac aw
       (by grind[maxLen]) hb (Nat.zero_le _)
     have a7:blk (S.loc k)=(S.loc k).ownBlock:=by grind[aAn]
     have a0:blk E=E.ownBlock:=by rcases q2.2 with⟨h,_⟩|⟨_,_,_,h,_⟩ <;> (rw[h];rfl)
     grind
 obtain⟨E,w',q1,q2,q3,q4⟩:=ay;have ag:=I.free k r hk;have Y:∀j,S.fz j->w'.heap[j]?=w.heap[j]?:=fun j F=>q3.block j (I.l9 j F) (fun e=>ag j e.symm F)
 have aa:iT S w w':=I.kept Y;have T:=S.le_addRow E r.sz;have Z:(S.addRow E r.sz).loc S.N=E:=by simp[Sg.addRow]
 have au:∀g,blk E=some g->¬S.fz g:=fun g A hf=>by
   rcases q4 with e|e
   . grind
   . rw[e]at A;injection A with A;subst A;exact Nat.lt_irrefl _ (I.l9 _ hf)
 have J:∀j r',j≠S.N->aI (aI H k none) S.N (some ⟨r.e,r.sz,r.es++news⟩) j=some r'->j≠k/\H j=some r':=fun j r' F h=>by grind[aF,aB]
 have ae:∀j r',j≠k->H j=some r'->∀g,blk (S.loc j)=some g->some g≠blk (S.loc k)/\g<w.heap.size:=fun j r' F U g A=>⟨fun e=>I.disj j k r' r U hk F g A e.symm,(I.rows j r' U).block_lt A⟩
 have a5:∀j r',j≠k->H j=some r'->∀g,blk (S.loc j)=some g->blk E≠some g:=fun j r' F U g A e=>by grind
 refine⟨E,w',q1,?_,⟨I.ι,fun j F=>Nat.lt_of_lt_of_le (I.l9 j F) q3.size,?_,?_,?_,I.tabs.keep T aa⟩,⟨T,fun _ h=>h,q3.os,q3.tape,q3.output,q3.size,Y,fun _ h=>.inl h⟩⟩
 . rcases q2.2 with⟨h,_⟩|⟨g,cap,cur,h,_⟩
   all_goals grind
 . intro j r' F;by_cases e:j=S.N
   . subst e;rw[aB]at F;injection F with F;subst F;refine⟨Nat.lt_succ_self _,by simp[Sg.addRow],af,?_,.inl ⟨xs++l,?_,?_,?_⟩⟩
     . intro cs ab;rcases List.mem_append.1 ab with ab|ab
       . exact hR.len cs ab
       grind
     all_goals grind[fZ,fQ]
   . obtain⟨e1,X⟩:=J j r' e F;exact(I.rows j r' X).keep T aa fun g A=>q3.block g (ae j r' e1 X g A).2 (ae j r' e1 X g A).1
 . intro j r' F g A;by_cases e:j=S.N
   . subst e;rw[Z]at A;exact au g A
   . obtain⟨e1,X⟩:=J j r' e F;rw[T.loc j (I.rows j r' X).lt]at A;exact I.free j r' X g A
 . intro j j' r1 r2 F U aj g A ai;by_cases e:j=S.N
   . subst e;rw[Z]at A;obtain⟨e1,X⟩:=J j' r2 (Ne.symm aj) U;rw[T.loc j' (I.rows j' r2 X).lt]at ai
     grind
   . obtain⟨e1,X⟩:=J j r1 e F;rw[T.loc j (I.rows j r1 X).lt]at A;by_cases e':j'=S.N
     . grind
     . obtain⟨e3,e4⟩:=J j' r2 e' U;rw[T.loc j' (I.rows j' r2 e4).lt]at ai;exact I.disj j j' r1 r2 X e4 aj g A ai
def QD{es:List (List AV)}{ad:Option Addr}{n:Nat}(h:rep S w (.cl es) (.slice ad n n)){sz:Nat}(Z:cT sz es):
  ∃l,l.length=es.length*sz/\bR S w es.flatten l/\(∀x∈l,x.oneCell'=true)/\n=es.length/\n<=maxLen/\(es=[]\/∃b o,ad=some ⟨b,o,none⟩/\∀j x,l[j]?=some x->w.cell? ⟨b,o+j,none⟩=some x):=by
 simp only[rep]at h;obtain⟨J,X,e,rfl,U,O⟩:=h;injection e with F E T;subst F E;rcases O with rfl|⟨b,o,I,rfl,hb,Y,A⟩
 ·simp[bR]
 ·obtain⟨l,F,E,T,e4⟩:=pD _ _ (Bs es o A)
  grind[qI,jT]
def adW{g:Nat}{cur:Array Value}{e:TypeId}{j:Nat}(h:w.heap[g]?=some (.cells cur e (0,0)))(A:j<cur.size):(w.cell? ⟨g,j,none⟩).isSome=true:=by simp[World.cell?,h,A]
def RQ{g:Nat}{cur:Array Value}{e:TypeId}{j:Nat}(h:w.heap[g]?=some (.cells cur e (0,0))):w.frozen? ⟨g,j,none⟩=false:=by simp[World.frozen?,h]
def St.drop'{H':aM}(h:St S w H)(E:∀k r,H' k=some r->H k=some r):St S w H':=
 ⟨h.ι,h.l9,fun k r A=>h.rows k r (E k r A),fun k r A=>h.free k r (E k r A),fun k k' r r' A F=>h.disj k k' r r' (E k r A) (E k' r' F),h.tabs⟩
def St.newOwned(I:St S w H){e:TypeId}{sz:Nat}{es':List (List AV)}{vals:List Value}{v':Value}{w':World}(ac:0<sz)(ae:∀cs∈es',cs.length=sz)(af:0<es'.length)
  (q2:w'.ownsRow w.heap.size e sz v' es'.length vals) (q3:w.grownBy w' none) (hr:bR S w es'.flatten vals) (h1:∀x∈vals,x.oneCell'=true):
  (∃a n c,v'=.slice a n c)/\St (S.addRow v' sz) w' (aI H S.N (some ⟨e,sz,es'⟩))/\Grow S w (S.addRow v' sz) w'/\∃g cap,v'=.slice (some ⟨g,0,none⟩) es'.length cap/\es'.length<=cap:=by
 obtain⟨g,cap,cur,hv,hg0,hg,hnc,hcm,hcs,htk⟩:∃g cap cur,v'=.slice (some ⟨g,0,none⟩) es'.length cap/\w.heap.size<=g/\w'.heap[g]?=some (.cells cur e (0,0))/\es'.length<=cap/\cap<=maxLen/\cur.size=cap*sz/\cur.toList.take (es'.length*sz)=vals:=by
  rcases q2.2 with⟨_,h⟩|⟨g,cap,cur,h1,h2,h3,h4,h5,h6,h7⟩
  ·omega
  ·exact⟨g,cap,cur,h1,h2,h3,h4,h5,h6,h7⟩
 subst hv;have X:∀k,k<w.heap.size->w'.heap[k]?=w.heap[k]?:=fun k E=>q3.block k E (by simp)
 have Y:iT S w w':=fun k E=>X k (I.l9 k (I.ι k E))
 have T:=S.le_addRow (.slice (some ⟨g,0,none⟩) es'.length cap) sz;have F:(S.addRow (.slice (some ⟨g,0,none⟩) es'.length cap) sz).loc S.N=.slice (some ⟨g,0,none⟩) es'.length cap:=by simp[Sg.addRow]
 have O:∀k r,k≠S.N->aI H S.N (some ⟨e,sz,es'⟩) k=some r->H k=some r:=fun k r E h=>by rwa [aF _ _ _ _ E]at h
 refine⟨⟨_,_,_,rfl⟩,⟨I.ι,fun k E=>Nat.lt_of_lt_of_le (I.l9 k E) q3.size,?_,?_,?_,I.tabs.keep T Y⟩,⟨T,fun _ h=>h,q3.os,q3.tape,q3.output,q3.size,fun k E=>X k (I.l9 k E),fun _ h=>.inl h⟩,g,cap,rfl,hnc⟩
 ·intro k r E;by_cases e0:k=S.N
  ·subst e0;rw[aB]at E;injection E with E;subst E;refine⟨Nat.lt_succ_self _,by simp[Sg.addRow],ac,ae,.inl ⟨vals,?_,fQ T Y _ _ hr,h1⟩⟩;rw[F];exact⟨q2.1,.inr ⟨g,cap,cur,rfl,Nat.zero_le _,hg,hnc,hcm,hcs,htk⟩⟩
  ·have J:=O k r e0 E;exact(I.rows k r J).keep T Y fun g' A=>X g' ((I.rows k r J).block_lt A)
 ·intro k r E g' A;by_cases e0:k=S.N
  ·subst e0;rw[F]at A;simp only[blk,Option.some.injEq]at A;subst A;exact fun h=>by have:=I.l9 _ h;omega
  ·have J:=O k r e0 E;rw[T.loc k (I.rows k r J).lt]at A;exact I.free k r J g' A
 ·intro k k' r r' E J aa g' A U;by_cases e0:k=S.N
  ·subst e0;rw[F]at A;simp only[blk,Option.some.injEq]at A;subst A;have Z:=O k' r' (Ne.symm aa) J;rw[T.loc k' (I.rows k' r' Z).lt]at U;have:=(I.rows k' r' Z).block_lt U;omega
  ·have Z:=O k r e0 E;rw[T.loc k (I.rows k r Z).lt]at A;by_cases e1:k'=S.N
   ·subst e1;rw[F]at U;simp only[blk,Option.some.injEq]at U;subst U;have:=(I.rows k r Z).block_lt A;omega
   ·have ab:=O k' r' e1 J;rw[T.loc k' (I.rows k' r' ab).lt]at U;exact I.disj k k' r r' Z ab aa g' A U
def St.appendNew(hS:St S w H){es:List (List AV)}{us:Value}(ag:rep S w (.cl es) us){t ty e:TypeId}{sz A:Nat}(he:cK P t=some (e,sz,A)){news:List (List AV)}{u:Value}(hu:yM S w u news)(am:news≠[])
   (Y:cT sz es) (ac:cT sz news) (hb:(es.length+news.length)*A<=140737488355328):
   ∃I w',(Builtin.append_ #[t,t] ty #[us,u]).run P w=.ok I w'/\(∃a n c,I=.slice a n c) /\
     St (S.addRow I sz) w' (aI H S.N (some ⟨e,sz,es++news⟩))/\Grow S w (S.addRow I sz) w':=by
 obtain⟨ae,z,ah,hi,aa,ab,J,X,hz,aj⟩:=iJ he;have O:=ag;simp only[rep]at O;obtain⟨ak,n0,rfl,_⟩:=O;obtain⟨l0,al,aq,ao,rfl,av,ax⟩:=QD ag Y;obtain⟨ad,c,l,rfl,hl,ai,ar⟩:=hu;have T:=jT.1 ac;have Z:=jT.1 Y;have af:l.length=news.length*sz:=by grind[jE,qI]
 have au:0<news.length:=List.length_pos_iff.2 am;have aw:es.length+news.length<=140737488355328:=Nat.le_trans (Nat.le_mul_of_pos_right _ X) hb;obtain⟨b,o,rfl,hcell⟩:∃b o,ad=some ⟨b,o,none⟩/\∀j x,l[j]?=some x->w.cell? ⟨b,o+j,none⟩=some x:=by grind
 have E:∀j x,l[j]?=some x->w.cell? ((⟨b,o,none⟩:Addr).add j)=some x:=fun j x hj=>by grind[Addr.add_lit]
 have ap:∃I w',(Builtin.append_ #[t,t] ty #[.slice ak es.length es.length,.slice (some ⟨b,o,none⟩) news.length c]).run P w=.ok I w'/\w'.ownsRow w.heap.size e sz I (es.length+news.length) (l0++l)/\w.grownBy w' none:=by
   cases ak with
   | none=>
     have an:es=[]:=by grind
     subst an;obtain rfl:l0=[]:=List.eq_nil_of_length_eq_zero (by grind);obtain⟨I,w',q1,q2,q3,_⟩:=run_append_own (P:=P) w w.heap.size t ty e ae z sz A ah hi hz aa ab aj J (.slice none 0 0) 0 [] (World.ownsRow_nil w _ e sz) ⟨b,o,none⟩ news.length c l af E ai (by grind[maxLen]) hb (Nat.le_refl _);exact⟨I,w',q1,q2,q3⟩
   | some a0=>
     have U:∀j x,l0[j]?=some x->w.cell? (a0.add j)=some x:=by grind[Addr.add_lit]
     exact run_append_arg_grows (P:=P) w t ty e ae z sz A ah hi hz aa ab aj J a0 es.length es.length l0 al U ⟨b,o,none⟩ news.length c l af E (by omega) (by grind[maxLen]) hb
 obtain⟨I,w',q1,q2,q3⟩:=ap;have hf:(es++news).flatten=es.flatten++news.flatten:=List.flatten_append;obtain ⟨p1, p2, p3, _⟩ := hS.newOwned (es' := es ++ news) J (fun cs F => by
     rcases List.mem_append.1 F with F|F
     . exact Z cs F
     . exact T cs F) (by simp;omega) (by rw[List.length_append];exact q2) q3 (by rw[hf];exact fZ _ _ _ _ aq hl) (fun x hx=>by
     rcases List.mem_append.1 hx with hx|hx
     . exact ao x hx
     . exact ai x hx)
 exact⟨I,w',q1,p1,p2,p3⟩
def St.appendOz(hS:St S w H){k a b:Nat}{r:Row}(hk:H k=some r){us:Value}(a9:rep S w (.oz k a b) us){t ty:TypeId}{J:Nat}(he:cK P t=some (r.e,r.sz,J)){news:List (List AV)}{u:Value}(hu:yM S w u news)
   (Z:news≠[]) (hb:b=r.es.length) (T:cT r.sz news) (F:(r.es.length+news.length)*J<=140737488355328):
   ∃v' w' vl ab,(Builtin.append_ #[t,t] ty #[us,u]).run P w=.ok v' w'/\St (S.addRow vl r.sz) w' (aI (aI H k none) S.N (some ⟨r.e,r.sz,ab++(r.es.drop a++news)⟩))/\Grow S w (S.addRow vl r.sz) w' /\
     rep (S.addRow vl r.sz) w' (.oz S.N ab.length (ab.length+(b-a)+news.length)) v'/\ab.length<=a:=by
 have hR:=hS.rows k r hk;obtain⟨ah,z,au,hi,aa,a8,ag,aj,hz,bc⟩:=iJ he;have ae:=a9;simp only[rep]at ae;obtain⟨bj,bm,n0,c0,ak,cc,A,rfl,bo,bh,ao,bd,bi,rfl⟩:=ae;have af:∀x:Option Row,∀j r',aI (aI H k none) S.N x j=some r'->aI H S.N x j=some r':=fun x j r' h=>by
   by_cases e:j=S.N
   . subst e;rw[aB]at h |-;exact h
   . rw[aF _ _ _ _ e]at h |-;by_cases e2:j=k
     . subst e2;rw[aB]at h;cases h
     . rw[aF _ _ _ _ e2]at h;exact h
 have ay:=hu;obtain⟨ad,c,l,rfl,hl,ax,am⟩:=ay;have U:=jT.1 T;have aw:l.length=news.length*r.sz:=by rw[jE _ _ hl,qI news U]
 have bp:0<news.length:=List.length_pos_iff.2 Z;have bk:r.es.length+news.length<=140737488355328:=Nat.le_trans (Nat.le_mul_of_pos_right _ aj) F;obtain⟨bn,on,rfl,hcell⟩:∃b o,ad=some ⟨b,o,none⟩/\∀j x,l[j]?=some x->w.cell? ⟨b,o+j,none⟩=some x:=by
   rcases am with h|h
   . exact absurd h Z
   . exact h
 have O:∀j x,l[j]?=some x->w.cell? ((⟨bn,on,none⟩:Addr).add j)=some x:=fun j x Y=>by rw[Addr.add_lit];exact hcell j x Y
 rcases Nat.lt_or_ge a c0 with av|av
 . obtain⟨g,rfl,rfl⟩:=ao av;obtain⟨xs,ho,hr,h1⟩:=hR.sl A;obtain⟨cur,hgc,I,htk,rfl⟩:∃cur,w.heap[g]?=some (.cells cur r.e (0,0))/\cur.size=c0*r.sz/\cur.toList.take (r.es.length*r.sz)=xs/\n0=r.es.length:=by
     rcases ho.2 with⟨hv,_⟩|⟨g',cap,cur,hv,_,h3,h4,h5,h6,h7⟩
     . rw[A]at hv;cases hv
     . rw[A]at hv;injection hv with e1 e2 e3;injection e1 with e1;injection e1 with e1;subst e1 e2 e3;exact⟨cur,h3,h6,h7,rfl⟩
   have a5:xs.length=r.es.length*r.sz:=ho.1;have az:∀j x,xs[j]?=some x->w.cell? ⟨g,j,none⟩=some x:=fun j x Y=>by
     have:=ho.cells (g:=g) (by rw[A];rfl) j x Y
     rwa [Addr.add_lit,Nat.zero_add]at this
   subst hb;rcases Nat.lt_or_ge (c0-a) (r.es.length-a+news.length)with ai|ba
   . have a4 : ∀ j x, (xs.drop (a * r.sz))[j]? = some x -> w.cell? ((⟨g, a * S.sz k, none⟩ : Addr).add j) = some x := fun j x Y => by rw[List.getElem?_drop]at Y;rw[Addr.add_lit,<-hR.sz];exact az _ _ Y
     obtain⟨v',w',q1,q2,q3⟩:=run_append_arg_grows (P:=P) w t ty r.e ah z r.sz J au hi hz aa a8 bc ag ⟨g,a*S.sz k,none⟩ (r.es.length-a) (c0-a) (xs.drop (a*r.sz)) (by rw[List.length_drop,a5,Nat.sub_mul]) a4 ⟨bn,on,none⟩ news.length c l aw O ai (by simp only[maxLen];omega)
       (Nat.le_trans (Nat.mul_le_mul_right _ (by omega)) F)
     have ac:(r.es.drop a++news).length=r.es.length-a+news.length:=by simp
     have be:bR S w (r.es.drop a).flatten (xs.drop (a*r.sz)):=by rw[By r.es a hR.len];exact wN _ _ _ hr
     obtain ⟨_, p2, p3, g', cap', rfl, ar⟩ := hS.newOwned (es' := r.es.drop a ++ news) (vals := xs.drop (a * r.sz) ++ l) ag (fun cs I => by
         rcases List.mem_append.1 I with I|I
         . exact hR.len cs (List.mem_of_mem_drop I)
         . exact U cs I) (by rw[ac];omega) (by rw[ac];exact q2) q3 (by rw[List.flatten_append];exact fZ _ _ _ _ be hl) (fun x hx=>by
         rcases List.mem_append.1 hx with hx|hx
         . exact h1 x (List.mem_of_mem_drop hx)
         . exact ax x hx)
     refine⟨_,w',_,[],q1,p2.drop' (af _),p3,?_,Nat.zero_le _⟩;simp only[rep,List.length_nil,Nat.zero_add,Sg.addRow,if_true];exact⟨Nat.lt_succ_self _,_,_,_,_,_,rfl,by rw[ac];rfl,Nat.zero_le _,by rw[ac];exact Nat.le_refl _,fun _=>⟨g',rfl,by rw[Nat.zero_mul]⟩,fun _=>⟨rfl,rfl⟩,ar,by rw[Nat.sub_zero]⟩
   . have al : ∀ off E cap, off + E * ah.size = r.es.length * r.sz -> E + news.length <= cap -> (Builtin.append_ #[t, t] ty #[.slice (some ⟨g, off, none⟩) E cap, .slice (some ⟨bn, on, none⟩) news.length c]).run P w = .ok (.slice (some ⟨g, off, none⟩) (E + news.length) cap) (w.setCells g (r.es.length * r.sz) l) := fun off E cap X a7 => by
       have bb:∀j,j<l.length->r.es.length*r.sz+j<cur.size:=fun j Y=>by have:(r.es.length+news.length)*r.sz<=c0*r.sz:=Nat.mul_le_mul_right _ (by omega);rw[Nat.add_mul]at this;rw[I];omega
       have:=run_append_room_cells (P:=P) w t ty r.e ah au hi g off E cap ⟨bn,on,none⟩ news.length c l (by rw[aa];exact aw) O ax a7
         (fun j Y=>by rw[X];exact adW hgc (bb j Y)) (fun j Y=>by rw[X];exact RQ hgc)
       rw[X]at this;exact this
     have r1:=al 0 r.es.length c0 (by rw[aa,Nat.zero_add]) (by omega);have r2:=al (a*S.sz k) (r.es.length-a) (c0-a) (by rw[aa,<-hR.sz,<-Nat.add_mul];congr 1;omega) (by omega);obtain⟨v1,w1,q1,_,q2,q3⟩:=hS.append hk A (ty:=ty) he hu T F;rw[A,r1]at q1;injection q1 with e1 e2;subst e1 e2;have ap:(r.es.take a).length=a:=by rw[List.length_take];omega
     refine⟨_,_,_,r.es.take a,r2,?_,q3,?_,Nat.le_of_eq ap⟩
     . rw[<-List.append_assoc,List.take_append_drop];exact q2
     . simp only[rep,Sg.addRow,if_true];rw[ap];exact⟨Nat.lt_succ_self _,_,_,_,_,_,rfl,congrArg (fun m=>Value.slice _ m _) (by omega),by omega,by omega,fun _=>⟨g,rfl,by rw[<-hR.sz]⟩,fun h0=>by subst h0;exact⟨by rw[Nat.zero_mul],by omega⟩,by omega,rfl⟩
 . have e0:r.es.drop a=[]:=List.drop_eq_nil_of_le (by omega);have a0:c0-a=0:=by omega
   have an:b-a=0:=by omega
   obtain⟨v',w',q1,⟨x1,x2,x3,rfl⟩,q2,q3⟩:=hS.appendNew (es:=[]) (us:=.slice ak (b-a) (c0-a)) (by simp only[rep];exact⟨ak,0,by rw[a0,an],rfl,Nat.zero_le _,.inl trivial⟩) (ty:=ty) he hu Z trivial T (by simpa using Nat.le_trans (Nat.mul_le_mul_right _ (Nat.le_add_left _ _)) F);have aq:=q2.rows S.N _ (aB _ _ _);obtain⟨bg,X,_,_⟩:=aq.sl (by simp[Sg.addRow]:(S.addRow (.slice x1 x2 x3) r.sz).loc S.N=.slice x1 x2 x3);have a6:(S.addRow (.slice x1 x2 x3) r.sz).loc S.N=.slice x1 x2 x3:=by simp[Sg.addRow]
   obtain⟨g',rfl,rfl,hc3⟩:∃g',x1=some ⟨g',0,none⟩/\x2=news.length/\news.length<=x3:=by
     rcases X.2 with⟨_,hn⟩|⟨g',cap',bf,hv,_,_,h4,_⟩
     . simp at hn;exact absurd hn Z
     . rw[a6]at hv;injection hv with e1 e2 e3;subst e3;simp at e2 h4;exact⟨g',e1,e2,h4⟩
   refine⟨_,w',_,[],q1,?_,q3,?_,Nat.zero_le _⟩
   . rw[e0];exact q2.drop' (af _)
   . simp only[rep,List.length_nil,Nat.zero_add,Sg.addRow,if_true,an];exact⟨Nat.lt_succ_self _,_,_,_,_,_,rfl,by rw[Nat.sub_zero],Nat.zero_le _,Nat.le_refl _,fun _=>⟨g',rfl,by rw[Nat.zero_mul]⟩,fun _=>⟨rfl,rfl⟩,hc3,by rw[Nat.sub_zero]⟩
end
end Go.Aw
end
section
namespace Go.Aw
open Go.RowKit
mutual
inductive Conv (H:aM):AV->AV->Prop
 | refl (x:AV):Conv H x x
 | any (x:AV):Conv H x .any
 | row (k:Nat) (r:Row) (es:List (List AV)):H k=some r->ConvE H r.es es->Conv H (.os k) (.sl es)
 | sl (es es':List (List AV)):ConvE H es es'->Conv H (.sl es) (.sl es')
 | agg (cs cs':List AV):ConvL H cs cs'->Conv H (.agg cs) (.agg cs')
 | tup (cs cs':List AV):ConvL H cs cs'->Conv H (.tup cs) (.tup cs')
 | ptr (k i f:Nat) (r:Row) (cs:List AV):H k=some r->i<r.es.length->ConvL H (r.es.getD i []) cs->Conv H (.op k i f) (.rp cs f)
 | fn (f:FuncId) (cap cap':List AV):ConvL H cap cap'->Conv H (.fn f cap) (.fn f cap')
inductive ConvL (H:aM):List AV->List AV->Prop
 | nil:ConvL H [] []
 | cons (x y:AV) (r s:List AV):Conv H x y->ConvL H r s->ConvL H (x::r) (y::s)
inductive ConvE (H:aM):List (List AV)->List (List AV)->Prop
 | nil:ConvE H [] []
 | cons (x y:List AV) (r s:List (List AV)):ConvL H x y->ConvE H r s->ConvE H (x::r) (y::s)
end
theorem ConvL.refl{H:aM}:∀l,ConvL H l l
 | []=>.nil
 | x::r=>.cons x x r r (.refl x) (ConvL.refl r)
theorem ConvE.refl{H:aM}:∀l,ConvE H l l
 | []=>.nil
 | x::r=>.cons x x r r (ConvL.refl x) (ConvE.refl r)
def Sg.froze(S:Sg)(H:aM):Sg:=
 { S with ro:=fun g=>S.ro g\/∃k r,H k=some r/\blk (S.loc k)=some g,fz:=fun g=>S.fz g\/∃k r,H k=some r/\blk (S.loc k)=some g }
def Sg.le_froze(S:Sg)(H:aM):S.le (S.froze H):=⟨fun _ h=>.inl h,Nat.le_refl _,fun _ _=>rfl,fun _ _=>rfl⟩
section
variable{S:Sg}{w:World}{H:aM}
def ConvE.len:∀{es es':List (List AV)},ConvE H es es'->es'.length=es.length
 | _,_,.nil=>rfl
 | _,_,.cons _ _ _ _ _ h=>by simp[ConvE.len h]
mutual
theorem Conv.rep(I:St S w H):∀{x y:AV} {u:Value},Conv H x y->rep S w x u->Aw.rep (S.froze H) w y u
 | _,_,_,.refl x,h=>oY (S.le_froze H) (iT.refl S w) _ _ h
 | _,_,_,.any x,_=>by grind[Aw.rep]
 | _,_,u,.row k r es hk F,h=>by
  simp only[Aw.rep]at h |-;obtain⟨_,rfl,_,_,_,J⟩:=h;have O:=I.rows k r hk;obtain⟨xs,ho,hr,h1⟩:=O.sl J;rcases ho.2 with⟨U,hn⟩|⟨g,cap,cur,U,_,Z,h3,X,h5⟩
  ·have h0:=List.eq_nil_of_length_eq_zero hn;refine⟨none,0,0,U,by rw[F.len,hn],Nat.le_refl _,Nat.zero_le _,.inl ?_⟩;exact List.eq_nil_of_length_eq_zero (by rw[F.len,hn])
  ·refine⟨_,_,cap,U,F.len,h3,X,.inr ⟨g,0,r.sz,rfl,.inr ⟨k,r,hk,by rw[U];rfl⟩,O.pos,?_⟩⟩;refine ConvE.rep I F ?_;refine uC _ _ O.len (lH _ xs 0 hr h1 fun j u hu=>?_);have:=ho.cells (g:=g) (by rw[U];rfl) j u hu
   grind[Addr.add_lit]
 | _,_,_,.sl es es' F,h=>by
  simp only[Aw.rep]at h |-;obtain⟨ad,n,c,rfl,h1,Z,h3,X⟩:=h;refine⟨ad,n,c,rfl,by rw[F.len,h1],Z,h3,?_⟩;rcases X with X|⟨b,o,sz,rfl,hb,hs,Y⟩
  ·exact .inl (List.eq_nil_of_length_eq_zero (by rw[F.len,X];rfl))
  ·exact .inr ⟨b,o,sz,rfl,.inl hb,hs,ConvE.rep I F Y⟩
 | _,_,_,.agg cs cs' hc,h=>by simp only[Aw.rep]at h |-;obtain⟨l,rfl,h1,Z⟩:=h;exact⟨l,rfl,ConvL.rep I hc h1,Z⟩
 | _,_,_,.tup cs cs' hc,h=>by simp only[Aw.rep]at h |-;obtain⟨l,rfl,h1⟩:=h;exact⟨l,rfl,ConvL.rep I hc h1⟩
 | _,_,_,.ptr k i f r cs hk hi hc,h=>by
  simp only[Aw.rep]at h |-;obtain⟨_,g,n,c,A,rfl⟩:=h;have O:=I.rows k r hk;have aa:r.es≠[]:=fun e=>by grind
  obtain⟨g',n',c',E,F,_⟩:=O.els A aa;rw[A]at E;injection E with T e2 e3;injection T with T;injection T with T;subst T;obtain⟨e4,e5⟩:=wG _ 0 i F hi;rw[Nat.zero_add,O.sz]at e5;exact⟨g,i*S.sz k,rfl,.inr ⟨k,r,hk,by rw[A];rfl⟩,(ConvL.cells I hc e5).1⟩
 | _,_,_,.fn f cap cap' hc,h=>by simp only[Aw.rep]at h |-;obtain⟨l,rfl,h1⟩:=h;exact⟨l,rfl,ConvL.rep I hc h1⟩
theorem ConvL.rep(A:St S w H):∀{x y:List AV} {l:List Value},ConvL H x y->bR S w x l->bR (S.froze H) w y l
 | _,_,_,.nil,h=>h
 | _,_,_,.cons x y r s hx hr,h=>by simp only[bR]at h |-;obtain⟨u,t,rfl,h1,E⟩:=h;exact⟨u,t,rfl,Conv.rep A hx h1,ConvL.rep A hr E⟩
theorem ConvL.cells(A:St S w H){b:Nat}:∀{x y:List AV} {o:Nat},ConvL H x y->dS S w b o x->dS (S.froze H) w b o y/\y.length=x.length
 | _,_,_,.nil,_=>⟨trivial,rfl⟩
 | _,_,o,.cons x y r s hx hr,h=>by simp only[dS]at h |-;obtain⟨⟨u,h1,J,E⟩,I⟩:=h;obtain⟨O,F⟩:=ConvL.cells A hr I;exact⟨⟨⟨u,h1,J,Conv.rep A hx E⟩,O⟩,by simp[F]⟩
theorem ConvE.rep(A:St S w H){b sz:Nat}:∀{x y:List (List AV)} {o:Nat},ConvE H x y->jX S w b sz o x->jX (S.froze H) w b sz o y
 | _,_,_,.nil,_=>trivial
 | _,_,o,.cons x y r s hx hr,h=>by simp only[jX]at h |-;obtain⟨h1,I,E⟩:=h;obtain⟨J,F⟩:=ConvL.cells A hx I;exact⟨by rw[F,h1],J,ConvE.rep A hr E⟩
end
end
mutual
def fv:AV->Option Value
 | .v x=>some x
 | .tup vs=>(fvL vs).map fun l=>.tuple l.toArray
 | .agg vs=>(fvL vs).map fun l=>.agg l.toArray
 | _=>none
def fvL:List AV->Option (List Value)
 | []=>some []
 | x::r=>match fv x,fvL r with
   | some u,some l=>some (u::l)
   | _,_=>none
end
mutual
theorem PB{S:Sg}{w:World}:∀{x:AV} {u v:Value},fv x=some v->rep S w x u->u=v
 | .v x,u,v,h,hr=>by grind[fv,rep]
 | .tup vs,u,v,h,hr=>by
  simp only[fv]at h;cases A:fvL vs with
  | none=>simp[A]at h
  | some l=>simp[A]at h;subst h;simp only[rep]at hr;obtain⟨l',rfl,h1⟩:=hr;rw[Qe A h1]
 | .agg vs,u,v,h,hr=>by
  simp only[fv]at h;cases A:fvL vs with
  | none=>simp[A]at h
  | some l=>simp[A]at h;subst h;simp only[rep]at hr;obtain⟨l',rfl,h1,_⟩:=hr;rw[Qe A h1]
 | .any,_,_,h,_=>by grind[fv]
 | .sl _,_,_,h,_=>by grind[fv]
 | .rp _ _,_,_,h,_=>by grind[fv]
 | .os _,_,_,h,_=>by grind[fv]
 | .op _ _ _,_,_,h,_=>by grind[fv]
 | .gd _ _,_,_,h,_=>by grind[fv]
 | .fn _ _,_,_,h,_=>by grind[fv]
 | .nf _,_,_,h,_=>by grind[fv]
 | .oz _ _ _,_,_,h,_=>by grind[fv]
 | .cl _,_,_,h,_=>by grind[fv]
theorem Qe{S:Sg}{w:World}:∀{x:List AV} {u v:List Value},fvL x=some v->bR S w x u->u=v
 | [],u,v,h,hr=>by grind[fvL,bR]
 | x::r,u,v,h,hr=>by
  simp only[fvL]at h;cases h1:fv x with
  | none=>simp[h1]at h
  | some a=>
   cases A:fvL r with
   | none=>simp[h1,A]at h
   | some l=>simp[h1,A]at h;subst h;simp only[bR]at hr;obtain⟨I,t,rfl,F,E⟩:=hr;rw[PB h1 F,Qe A E]
end
mutual
theorem YZ{S E:Sg}{w I:World}:∀{x:AV} {u v:Value},fv x=some v->rep S w x u->rep E I x u
 | .v x,u,v,h,hr=>by grind[rep]
 | .tup vs,u,v,h,hr=>by
  simp only[fv]at h;cases A:fvL vs with
  | none=>simp[A]at h
  | some l=>simp only[rep]at hr |-;obtain⟨l',rfl,h1⟩:=hr;exact⟨l',rfl,Qa A h1⟩
 | .agg vs,u,v,h,hr=>by
  simp only[fv]at h;cases A:fvL vs with
  | none=>simp[A]at h
  | some l=>simp only[rep]at hr |-;obtain⟨l',rfl,h1,F⟩:=hr;exact⟨l',rfl,Qa A h1,F⟩
 | .any,_,_,h,_=>by grind[fv]
 | .sl _,_,_,h,_=>by grind[fv]
 | .rp _ _,_,_,h,_=>by grind[fv]
 | .os _,_,_,h,_=>by grind[fv]
 | .op _ _ _,_,_,h,_=>by grind[fv]
 | .gd _ _,_,_,h,_=>by grind[fv]
 | .fn _ _,_,_,h,_=>by grind[fv]
 | .nf _,_,_,h,_=>by grind[fv]
 | .oz _ _ _,_,_,h,_=>by grind[fv]
 | .cl _,_,_,h,_=>by grind[fv]
theorem Qa{S E:Sg}{w J:World}:∀{x:List AV} {u v:List Value},fvL x=some v->bR S w x u->bR E J x u
 | [],u,v,h,hr=>by grind[bR]
 | x::r,u,v,h,hr=>by
  simp only[fvL]at h;cases h1:fv x with
  | none=>simp[h1]at h
  | some a=>
   cases A:fvL r with
   | none=>simp[h1,A]at h
   | some l=>simp only[bR]at hr |-;obtain⟨F,t,rfl,O,I⟩:=hr;exact⟨F,t,rfl,YZ h1 O,Qa A I⟩
end
def aA7(S:Sg)(w:World)(H:aM)(R:AV->aM->Prop)(e:Ending)(w':World):Prop:=
 ∃v r H' S',e=.returned v/\R r H'/\St S' w' H'/\rep S' w' r v/\Grow S w S' w'/\hY S.N H H'
def bQ(P:Program)(f:FuncId)(args:List AV)(H:aM)(R:AV->aM->Prop):Prop:=
 ∀S w (vals:List Value),St S w H->bR S w args vals->Calls P f vals.toArray w (aA7 S w H R)
def bN:aM:=fun _=>none
def RC(P:Program)(f:FuncId)(args:List AV)(R:AV->aM->Prop):Prop:=
 ∀S w (vals:List Value),St S w bN->(∀k,k<w.heap.size->S.fz k)->bR S w args vals->Calls P f vals.toArray w (aA7 S w bN R)
def PC(P:Program)(f:FuncId)(args:List AV)(r:AV):Prop:=RC P f args fun x _=>x=r
def NC(P:Program)(f:FuncId)(args:List AV)(row:Row)(mk:Nat->AV):Prop:=RC P f args fun x H'=>∃k,x=mk k/\H' k=some row
def BX(P:Program)(f:FuncId)(args:List AV)(H:aM)(r:AV):Prop:=∃args',ConvL H args args'/\PC P f args' r/\(fv r).isSome=true
def eN(P:Program)(f:FuncId)(args:List AV)(H:aM)(r:AV):Prop:=BX P f args H r\/∃x,r=.nf x/\PC P f args x
def Tq{q:Bool}{r:AV}{K:AV->Prop}(h:(fv r).isSome=true):nfq q r K=K r:=by cases q <;> cases r <;> first|rfl|(simp[fv]at h)
def UH{q:Bool}{r:AV}{K:AV->Prop}(h:nfq q r K):∃z,K z:=by
 unfold nfq at h
 grind
section
variable{P:Program}{f:FuncId}{args:List AV}{H:aM}{R K:AV->aM->Prop}
def RC.mono(h:RC P f args R)(J:∀r H',R r H'->K r H'):RC P f args K:=fun S w vals F A E=>(h S w vals F A E).mono fun _ _ ⟨v,r,H',S',h1,O,I⟩=>⟨v,r,H',S',h1,J r H' O,I⟩
def St.drop{S:Sg}{w:World}{H':aM}(h:St S w H)(E:∀k r,H' k=some r->H k=some r):St S w H':=
 ⟨h.ι,h.l9,fun k r A=>h.rows k r (E k r A),fun k r A=>h.free k r (E k r A),fun k k' r r' A F=>h.disj k k' r r' (E k r A) (E k' r' F),h.tabs⟩
def RC.conv{r:AV}(h:RC P f args fun x H'=>Conv H' x r):PC P f args r:=fun S w vals T J Z=>
 (h S w vals T J Z).mono fun e w' ⟨v,x,H',S',U,O,E,X,F,hn⟩=>by
  refine⟨v,r,bN,S'.froze H',U,rfl,⟨?_,?_,fun k r I=>by grind[bN],fun k r I=>by grind[bN],fun k k' r r' I=>by grind[bN],E.tabs.keep (S'.le_froze H') (iT.refl S' w')⟩,O.rep E X,?_,fun _ _ _=>rfl⟩
  ·rintro g (A|A)
   ·exact .inl (E.ι g A)
   ·exact .inr A
  ·rintro g (A|⟨k,row,I,A⟩)
   ·exact E.l9 g A
   ·exact(E.rows k row I).block_lt A
  ·refine⟨Sg.le_trans F.le (S'.le_froze H'),fun k I=>.inl (F.fz k I),F.os,F.tape,F.output,F.size,F.same,?_⟩;rintro g (A|⟨k,row,I,A⟩)
   ·exact F.newro g A
   ·exact .inr fun Y=>E.free k row I g A (F.fz g Y)
def merge(H H':aM):aM:=fun k=>match H' k with|some r=>some r|none=>H k
def RC.frame(h:RC P f args R)(hK:∀r H',R r H'->(∀k row,H' k=some row->H k=none)->∃U,K r U/\(∀k row,U k=some row->merge H H' k=some row)/\∀k,H k=none->H' k=none->U k=none):
  bQ P f args H K:=by
 intro S w vals F ha
 let S0:Sg:={ S with fz:=fun k=>k<w.heap.size }
 have ah:S.le S0:=⟨fun _ h=>h,Nat.le_refl _,fun _ _=>rfl,fun _ _=>rfl⟩;have am:St S0 w bN:=⟨fun k A=>F.l9 k (F.ι k A),fun _ h=>h,fun k r A=>by grind[bN],fun k r A=>by grind[bN],fun k k' r r' A=>by grind[bN],F.tabs⟩;refine(h S0 w vals am (fun _ h=>h) (fQ ah (iT.refl S w) _ _ ha)).mono fun e w' ⟨v,x,H',S',he,hx,I,hv,O,hn⟩=>?_
 have au:∀k row,H' k=some row->S.N<=k:=fun k row A=>by
  rcases Nat.lt_or_ge k S.N with ac|ar
  ·rw[hn k ac rfl]at A;grind
  omega
 have af:∀k row,H' k=some row->H k=none:=fun k row A=>by
  cases hH:H k with
  | none=>rfl
  | some r=>have:=(F.rows k r hH).lt;grind
 obtain⟨U,an,aq,ao⟩:=hK x H' hx af
 let S'':Sg:={ S' with fz:=fun k=>S.fz k\/(S'.fz k/\w.heap.size<=k)\/S'.ro k }
 have Y:S'.le S'':=⟨fun _ h=>h,Nat.le_refl _,fun _ _=>rfl,fun _ _=>rfl⟩;have ak:∀k,k<S.N->S'.loc k=S.loc k:=O.le.loc;have aa:S.le S'':=⟨fun k A=>O.le.ro k A,O.le.N,O.le.loc,O.le.sz⟩;have J:∀k,k<w.heap.size->w'.heap[k]?=w.heap[k]?:=O.same;have ae:iT S w w':=fun k A=>J k (F.l9 k (F.ι k A))
 have ap:∀k r,H k=some r->RowOK S'' w' k r:=fun k r A=>(F.rows k r A).keep aa ae fun g E=>J g ((F.rows k r A).block_lt E)
 have al:∀k r,H' k=some r->RowOK S'' w' k r:=fun k r A=>(I.rows k r A).keep Y (iT.refl S' w') fun _ _=>rfl
 have Z:∀k r,H k=some r->∀g,blk (S''.loc k)=some g->blk (S.loc k)=some g/\g<w.heap.size:=fun k r A g E=>by have h1:S''.loc k=S.loc k:=ak k (F.rows k r A).lt;rw[h1]at E;exact⟨E,(F.rows k r A).block_lt E⟩
 have ab:∀k r,H' k=some r->∀g,blk (S''.loc k)=some g->¬S'.fz g/\w.heap.size<=g:=fun k r A g E=>by
  have h1:=I.free k r A g E;refine⟨h1,?_⟩;rcases Nat.lt_or_ge g w.heap.size with ac|ar
  ·exact absurd (O.fz g ac) h1
  omega
 have mJ:∀k r,merge H H' k=some r->H' k=some r\/(H k=some r/\H' k=none):=fun k r A=>by grind[merge]
 have hM:St S'' w' (merge H H'):=by
  refine⟨fun k A=>.inr (.inr A),?_,?_,?_,?_,I.tabs⟩
  ·rintro k (A|A|A)
   ·exact Nat.lt_of_lt_of_le (F.l9 k A) O.size
   ·exact I.l9 k A.1
   ·exact I.l9 k (I.ι k A)
  ·intro k r A
   grind
  ·intro k r A g E T;rcases mJ k r A with h'|⟨h',_⟩
   ·obtain⟨e1,e2⟩:=ab k r h' g E;rcases T with T|T|T
    ·have:=F.l9 g T;omega
    ·grind
    ·exact e1 (I.ι g T)
   ·obtain⟨e1,e2⟩:=Z k r h' g E;rcases T with T|T|T
    ·exact F.free k r h' g e1 T
    ·omega
    ·rcases O.newro g T with X|X
     ·exact F.free k r h' g e1 (F.ι g X)
     omega
  ·intro k k' r r' A ai aj g E ag;rcases mJ k r A with h1|⟨h1,_⟩
   ·rcases mJ k' r' ai with X|⟨X,_⟩
    ·exact I.disj k k' r r' h1 X aj g E ag
    grind
   ·rcases mJ k' r' ai with X|⟨X,_⟩
    ·grind
    ·exact F.disj k k' r r' h1 X aj g (Z k r h1 g E).1 (Z k' r' X g ag).1
 refine⟨v,x,U,S'',he,an,hM.drop aq,oY Y (iT.refl S' w') _ _ hv,⟨aa,fun _ h=>.inl h,O.os,O.tape,O.output,O.size,fun k A=>J k (F.l9 k A),fun k A=>(O.newro k A).imp id (fun X h3=>X (F.l9 k h3))⟩,?_⟩
 ·intro k A h0;exact ao k h0 (hn k A rfl)
def PC.use{r:AV}(h:PC P f args r)(A:K r H):bQ P f args H K:=
 RC.frame h fun x H' E I=>⟨H,E▸A,fun k row F=>by grind[merge],fun _ h _=>h⟩
def NC.use{row:Row}{A:Nat->AV}(h:NC P f args row A)(E:∀k,H k=none->K (A k) (aI H k (some row))):bQ P f args H K:=
 RC.frame h fun x H' ⟨k,F,I⟩ J=>⟨aI H k (some row),F▸E k (J k row I),fun j r O=>by grind[merge,aB,aF],fun j h0 h1=>by grind[aF]⟩
def BX.val{r:AV}(h:BX P f args H r):∃v,fv r=some v:=by obtain⟨_,_,_,A⟩:=h;exact Option.isSome_iff_exists.1 A
def BX.calls{r:AV}(h:BX P f args H r){v:Value}(hv:fv r=some v){S:Sg}{w:World}{vals:List Value}(J:St S w H)(ha:bR S w args vals):
  (∀S2 Y,rep S2 Y r v)/\Calls P f vals.toArray w fun e w'=>e=.returned v/\w'.os=w.os/\w'.tape=w.tape/\w'.output=w.output/\w.heap.size<=w'.heap.size/\∀k,k<w.heap.size->w'.heap[k]?=w.heap[k]?:=by
 obtain⟨args',hc,hp,hf⟩:=h
 let S0:Sg:={ S.froze H with fz:=fun k=>k<w.heap.size }
 have E:(S.froze H).le S0:=⟨fun _ h=>h,Nat.le_refl _,fun _ _=>rfl,fun _ _=>rfl⟩;have T:St S0 w bN:=⟨fun k I=>by
  rcases I with I|⟨j,r,hj,F⟩
  ·exact J.l9 k (J.ι k I)
  ·exact(J.rows j r hj).block_lt F,fun _ h=>h,fun k r I=>by grind[bN],fun k r I=>by grind[bN],fun k k' r r' I=>by grind[bN],(J.tabs.keep (S.le_froze H) (iT.refl S w)).keep E (iT.refl _ w)⟩
 have A:=hp S0 w vals T (fun _ h=>h) (fQ E (iT.refl _ w) _ _ (hc.rep J ha));refine⟨fun S2 Y=>?_,A.mono fun e w' ⟨v',x,H',S',Z,X,U,O,F,hn⟩=>?_⟩
 ·obtain⟨e,w',fr,⟨v',x,H',S',Z,X,U,O,_⟩,_⟩:=A []
  grind[PB,YZ]
 ·subst X;have:=PB hv O;subst this;exact⟨Z,F.os,F.tape,F.output,F.size,F.same⟩
def St.after{S:Sg}{w w':World}(A:St S w H)(J:w.heap.size<=w'.heap.size)(E:∀k,k<w.heap.size->w'.heap[k]?=w.heap[k]?):St S w' H:=
 ⟨A.ι,fun k h=>Nat.lt_of_lt_of_le (A.l9 k h) J,fun k r h=>(A.rows k r h).keep S.le_refl (fun j F=>E j (A.l9 j (A.ι j F))) fun g I=>E g ((A.rows k r h).block_lt I),A.free,A.disj,A.tabs.keep S.le_refl (fun j F=>E j (A.l9 j (A.ι j F)))⟩
theorem St.grow{S:Sg}{w w':World}(O:St S w H)(J:w'.os=w.os)(F:w'.tape=w.tape)(I:w'.output=w.output)(E:w.heap.size<=w'.heap.size)(A:∀k,k<w.heap.size->w'.heap[k]?=w.heap[k]?):Grow S w S w':=
 ⟨S.le_refl,fun _ h=>h,J,F,I,E,fun k h=>A k (O.l9 k h),fun _ h=>.inl h⟩
def BX.use{r:AV}(h:BX P f args H r)(J:K r H):bQ P f args H K:=by
 intro S w vals A T;obtain⟨v,E⟩:=h.val;obtain⟨hv,O⟩:=h.calls E A T;refine O.mono fun e w' ⟨Y,X,Z,U,F,I⟩=>⟨v,r,H,S,Y,J,A.after F I,?_,A.grow X Z U F I,hY.refl _ _⟩
 grind
end
end Go.Aw
end
section
namespace Go.Aw
open Go.RowKit
def Rel(n:Nat)(S0:Sg)(w0:World)(H0:aM)(ρ:Env)(H:aM)(a:Act)(w:World):Prop:=
 ∃S,St S w H/\FR S w ρ a/\Grow S0 w0 S w/\hY S0.N H0 H/\a.defers=[]/\a.tmps.size=n
def azX(n:Nat):Option Nat->Bool
 | some d=>decide (d<n)
 | none=>true
def mU(n:Nat)(o:Oper):Bool:=o.op.operands.all (opB n)&&azX n o.dst
section
variable{P:Program}{n:Nat}{S0:Sg}{w0:World}{H0:aM}{mt:Nat->Bool}{ops:Array Oper}
def BF{o:Oper}(h:mU n o=true):(∀x∈o.op.operands,opB n x=true)/\azX n o.dst=true:=by
 simp only[mU,Bool.and_eq_true]at h
 grind[Array.all_eq_true_iff_forall_mem]
theorem CU(a:Act)(d:Option Nat)(v:Value):(a.put d v).tmps.size=a.tmps.size:=by cases d <;> simp[Act.put]
theorem tL(a:Act)(d:Option Nat)(v:Value):(a.put d v).defers=a.defers:=by cases d <;> simp[Act.put]
def BL{S:Sg}{w:World}{ρ:Env}{a:Act}{o:Oper}{K:Option Bool->Prop}(A:∀o∈ops,mU n o=true)(J:FR S w ρ a)(X:a.tmps.size=n)(h:dF ops ρ o.guard K):
  ∃G,K G/\(Region.wanted o (yielded ops a.tmps)=true↔gt G):=by
 unfold dF at h;unfold Region.wanted;cases O:o.guard with
 | none=>grind[gt]
 | some jw=>
  obtain⟨j,F⟩:=jw;rw[O]at h;simp only at h;cases I:(ops[j]?).bind (·.dst)with
  | none=>grind
  | some t=>
   rw[I]at h;simp only at h;have T:t<a.tmps.size:=by
    cases E:ops[j]? with
    | none=>grind
    | some oj=>
     simp[E]at I;have:=(BF (A oj (Array.mem_of_getElem? E))).2
     grind[azX]
   have U:yielded ops a.tmps j=match a.tmps.getD t undef with| .bool b=>some b|_=>none:=by unfold yielded;simp_all;grind
   have Y:=J t T
   grind[rep,gt,undef]
theorem gF{S:Sg}{w:World}{G:Option Bool}{z:AV}(h:¬gt G):rep S w (wr G z) undef:=by cases G<;>simp_all[gt,wr,rep]
def iA{S:Sg}{w:World}{G:Option Bool}{z:AV}{v:Value}(h:gt G)(A:rep S w z v):rep S w (wr G z) v:=by
 cases G with
 | none=>exact A
 | some b=>
  have:b=true:=h
  grind[wr,rep]
end
section
variable{P:Program}{n:Nat}{S0:Sg}{w0:World}{H0:aM}{mt:Nat->Bool}{ops:Array Oper}{K:Env->aM->Prop}{K':Act->World->Prop}{Q':Exit->Act->World->Prop}{ρ:Env}{H:aM}{a:Act}{w:World}{o:Oper}{S:Sg}
def Cf(P:Program)(ops:Array Oper)(o:Oper)(a:Act)(w:World)(K':Act->World->Prop)(Q':Exit->Act->World->Prop):Prop:=
 (Region.wanted o (yielded ops a.tmps)=true->o.wp P a w K' Q')/\(Region.wanted o (yielded ops a.tmps)=false->K' (a.put o.dst undef) w)
def fG{v:Value}{w':World}(h:(execOp a.eval o).run P w=.ok (.value v) w')(A:K' (a.put o.dst v) w'):o.wp P a w K' Q':=by unfold Oper.wp;rw[h];exact A
def Rel.step(U:St S w H)(O:FR S w ρ a)(I:Grow S0 w0 S w)(T:hY S0.N H0 H)(Y:a.defers=[])(X:a.tmps.size=n){S':Sg}{w':World}{H':aM}{z:AV}{v:Value}{d:Option Nat}
  (E:St S' w' H') (A:Grow S w S' w') (F:hY S.N H H') (J:rep S' w' z v):Rel n S0 w0 H0 (upd ρ d z) H' (a.put d v) w':=
 ⟨S',E,FR.put (O.keep A.le (A.kept U)) J,I.trans A,T.trans F I.le.N,by grind[tL],by grind[CU]⟩
def wB(E:St S w H)(I:FR S w ρ a)(Y:Grow S0 w0 S w)(hN:hY S0.N H0 H)(hd:a.defers=[])(J:a.tmps.size=n)(hb:∀x∈o.op.operands,opB n x=true){G:Option Bool}
  (O:Region.wanted o (yielded ops a.tmps)=true↔gt G) (T:∀F H' X w',K F H'->Rel n S0 w0 H0 F H' X w'->K' X w') (h:jV P G ρ H o.op fun x=>K (upd ρ o.dst (wr G x)) H):
  Cf P ops o a w K' Q':=by
 obtain⟨z,U,hg⟩:=Im (J▸hb) I E.rows h;refine⟨fun Z=>?_,fun Z=>?_⟩
 ·have A:=O.1 Z;obtain⟨v,hv,hr⟩:=hg A;exact fG (hr w (Agree.refl S H w) o rfl) (T _ _ _ _ U (Rel.step E I Y hN hd J E (Grow.refl S w) (hY.refl _ _) (iA A hv)))
 ·have A:¬gt G:=fun h=>by grind
  exact T _ _ _ _ U (Rel.step E I Y hN hd J E (Grow.refl S w) (hY.refl _ _) (gF A))
def sK(E:St S w H){r:Option Row}:hY S.N H (aI H S.N r):=fun k A h=>by grind[aF]
def ayR(t:TypeId)(v:Value)(w:World):(Instr.box t v).run P w=.ok (.pointer (some ⟨w.heap.size,0,none⟩)) (w.alloc (.cells v.cells t)):=by rfl
def adA{t:TypeId}{z:List AV}(h:dX P t=some z)(E:Value)(w:World):∃(v:Value) (i:TypeInfo),P.info? t=some i/\z=v.cells.toList.map uT/\(∀u∈v.cells.toList,u.oneCell'=true)/\v.cells.size≠0 /\
  (Instr.alloc t true E).run P w=.ok (.pointer (some ⟨w.heap.size,0,none⟩)) (w.alloc (.cells v.cells t)):=by
 obtain⟨i,v,F,O,A,I,J,h1⟩:=qV h;refine⟨v,i,F,A,h1,by omega,?_⟩;simp_all[Instr.alloc,zeroValue,typeInfo,newVar,newRow]
def Ia(I:St S w H){t:TypeId}{cs:List AV}{l:List Value}(A:0<cs.length)(E:bR S w cs l)(h1:∀u∈l,u.oneCell'=true):
  ∃S',St S' (w.alloc (.cells l.toArray t)) (aI H S.N (some ⟨t,cs.length,[cs]⟩))/\Grow S w S' (w.alloc (.cells l.toArray t))/\rep S' (w.alloc (.cells l.toArray t)) (.op S.N 0 0) (.pointer (some ⟨w.heap.size,0,none⟩)):=by
 have F:=jE _ _ E;have:=I.newRow (e:=t) (sz:=cs.length) (cap:=1) (es:=[cs]) (xs:=l) (cur:=l.toArray) A (by simp) (by grind) h1 (by simp) (by simp[maxLen]) (by grind) (by simp[<-F]) (w':=w.alloc (.cells l.toArray t)) rfl rfl rfl rfl;refine⟨_,this.1,this.2,?_⟩;simp[rep,Sg.addRow]
theorem Mn:∀(i n:Nat),Qb i n=List.range' i n
 | _,0=>rfl
 | i,n+1=>by simp[Qb,List.range'_succ,Mn (i+1) n]
def Pj{sz n:Nat}:∀(l:List (Nat×List AV)) (vs:List (Nat×Value)) (i:Nat) (A:Array Value),l.map (·.1)=Qb i l.length->cT sz (l.map (·.2))->l.length=vs.length ->
  (∀(j k:Nat) (c:List AV),l[j]?=some (k,c)->∃(v:Value) (l':List Value),vs[j]?=some (k,v)/\v.cells=List.toArray l'/\bR S w c l'/\∀u∈l',u.oneCell'=true)->A.size=n*sz->i+l.length=n ->
  ∃xs:List Value,Instr.fill (fun i=>some (i*sz,sz)) A vs=some (A.toList.take (i*sz)++xs).toArray/\bR S w (l.map (·.2)).flatten xs/\∀u∈xs,u.oneCell'=true
 | [],vs,i,A,_,_,hl,_,hA,hi=>by have:vs=[]:=List.eq_nil_of_length_eq_zero (by grind);subst this;refine⟨[],?_,by rfl,by simp⟩;simp_all[Instr.fill,List.take_of_length_le]
 | (k,c)::rest,vs,i,A,E,hlen,hl,hv,hA,hi=>by
  simp only[List.map_cons,List.length_cons,Qb,List.cons.injEq]at E;obtain⟨rfl,E⟩:=E;simp only[List.map_cons,cT]at hlen;obtain⟨v,l',J,O,e3,e4⟩:=hv 0 k c (by simp);cases vs with
  | nil=>grind
  | cons q vs=>
   simp at J;subst J;have I:l'.length=sz:=by grind[jE]
   simp only[List.length_cons]at hi;have T:(k+1)*sz<=n*sz:=Nat.mul_le_mul_right _ (by omega);rw[Nat.add_mul,Nat.one_mul]at T;have U:=HF l' 0 A (k*sz) (by omega);simp only[Nat.add_zero]at U;obtain⟨xs,X,f2,Y⟩:=Pj (n:=n) rest vs (k+1) (A.toList.take (k*sz)++l'++A.toList.drop (k*sz+l'.length)).toArray E hlen.2 (by grind) (fun j i c hj=>by simpa using hv (j+1) i c (by grind))
    (by grind) (by omega)
   refine⟨l'++xs,?_,?_,?_⟩
   ·simp only[Instr.fill,O,List.size_toArray,I];rw[if_neg (by grind)];have F:(Array.foldl (fun cs (x:Value×Nat)=>cs.setIfInBounds (k*sz+x.2) x.1) A l'.toArray.zipIdx)=(A.toList.take (k*sz)++l'++A.toList.drop (k*sz+l'.length)).toArray:=by grind
    rw[F,X]
    congr 2
    have Z:List.take ((k+1)*sz) (A.toList.take (k*sz)++l'++A.toList.drop (k*sz+l'.length))=A.toList.take (k*sz)++l':=by rw[Nat.add_mul,Nat.one_mul,List.take_append_of_le_length (by grind),List.take_of_length_le (by grind)]
    grind
   all_goals grind[fZ]
def LP{t e:TypeId}{sz J:Nat}(he:cK P t=some (e,sz,J)){l:List (Nat×List AV)}{A:Array (Nat×Value)}{m:Nat}(I:l.map (·.1)=Qb 0 m)(O:cT sz (l.map (·.2)))(hl:l.length=A.toList.length)
  (hv:∀(j k:Nat) (c:List AV),l[j]?=some (k,c)->∃(v:Value) (l':List Value),A.toList[j]?=some (k,v)/\v.cells=List.toArray l'/\bR S w c l'/\∀u∈l',u.oneCell'=true) (hm:m*sz<=16777216):
  ∃xs:List Value,(Instr.buildSlice t m A).run P w=.ok (.slice (some ⟨w.heap.size,0,none⟩) m m) (w.alloc (.cells xs.toArray e))/\bR S w (l.map (·.2)).flatten xs/\(∀u∈xs,u.oneCell'=true)/\l.length=m/\xs.length=m*sz:=by
 obtain⟨F,z,hu,hi,rfl,_,ab,_,hz,ac⟩:=iJ he;have T:l.length=m:=by
  have:=congrArg List.length I
  grind[Mn]
 have E:∀xs:List Value,bR S w (l.map (·.2)).flatten xs->xs.length=m*F.size:=fun xs h=>by grind[jE,qI,jT,List.length_map]
 subst T;obtain⟨xs,f1,Z,f3⟩:=Pj (n:=l.length) l A.toList 0 ((Array.range (l.length*F.size)).map (z.cells[·%z.cells.size]!)) I O hl hv (by simp) (by simp);simp only[Nat.zero_mul,List.take_zero,List.nil_append]at f1;refine⟨xs,?_,Z,f3,rfl,E xs Z⟩;have X:¬l.length*F.size>2^24:=by omega
 by_cases h0:l.length*F.size=0
 ·have Y:l.length=0:=by grind[Nat.mul_eq_zero]
  have aa:A.toList=[]:=List.eq_nil_of_length_eq_zero (by omega);have U:xs=[]:=List.eq_nil_of_length_eq_zero (by rw[E xs Z,h0]);subst U;simp[Instr.buildSlice,run_underlying hu,sizeOf,typeInfo,hi,aa,Instr.fill,newRow,Y];have:(Array.range 0).map (fun _=>(default:Value))=#[]:=Array.eq_empty_of_size_eq_zero (by simp);rw[this]
 ·simp[Instr.buildSlice,run_underlying hu,sizeOf,typeInfo,hi,X,h0,zeroValue,hz,newRow];simp_all
end
end Go.Aw
end
section
namespace Go.Aw
open Go.RowKit
section
variable{P:Program}{n:Nat}{S0:Sg}{w0:World}{H0:aM}{mt:Nat->Bool}{ops:Array Oper}{K:Env->aM->Prop}{K':Act->World->Prop}{Q':Exit->Act->World->Prop}{ρ:Env}{H:aM}{a:Act}{w:World}{o:Oper}{S:Sg}
theorem eD{G:Option Bool}(A:Region.wanted o (yielded ops a.tmps)=true↔gt G)(E:G=none):Region.wanted o (yielded ops a.tmps)=true:=by subst E;exact A.2 trivial
def SV{f:FuncId}(h:aE P f=true):∃fn,P.funcs[f]?=some fn/\(fn.name == "runtime.NumGoroutine")=false/\fn.body.isNone=false:=by unfold aE at h;simp_all;grind
theorem vS{f:FuncId}(h:aE P f=true)(args:Array Value)(w:World):(callFunc f args).run P w=.ok (.enter f args) w:=by
 obtain⟨fn,h1,I,F⟩:=SV h;have A:¬fn.name = "runtime.NumGoroutine" := by grind
 have E:¬fn.body=none:=fun e=>by grind
 simp_all[callFunc]
def iD(A:Region.wanted o (yielded ops a.tmps)=true)(h:o.wp P a w K' Q'):Cf P ops o a w K' Q':=⟨fun _=>h,fun e=>by grind⟩
theorem Z2:∀(l:List Value),bR S w (l.map .v) l
 | []=>by rfl
 | v::r=>by simp only[List.map_cons,bR];exact⟨v,r,rfl,rE,Z2 r⟩
def Fb{x:AV}{g:FuncId}{F E:List AV}{u:Value}(h:M3 x=some (g,F,E))(I:rep S w x u):
  ∃first A:Array Value,u=.func (.func g) first A/\bR S w F first.toList/\bR S w E A.toList:=by
 unfold M3 at h
 grind[rep,Z2,bR]
def rU{c:Call}{f:Operand}(F:c.callee=.value f){g:FuncId}{first A:Array Value}(E:a.eval f=.func (.func g) first A)(ty:TypeId):
  resolve a.eval c ty=pure { target:=.fn (.func g) A,args:=first++c.args.map a.eval }:=by
 unfold resolve;simp only[F];rw[E];rfl
def Vl{nl aw:Bool}{G:Option Bool}{c:Call}(E:St S w H)(hF:FR S w ρ a)(hG:Grow S0 w0 S w)(hN:hY S0.N H0 H)(hd:a.defers=[])(hn:a.tmps.size=n)(ho:o.op=.call c)(hb:∀x∈o.op.operands,opB n x=true)
   (ah:Region.wanted o (yielded ops a.tmps)=true↔gt G) (hK:∀bb H' a' w',K bb H'->Rel n S0 w0 H0 bb H' a' w'->K' a' w') (h:Gj P (bQ P) (eN P) nl aw G o c ρ H K):Cf P ops o a w K' Q':=by
 rw[ho]at hb;simp only[Op.operands,Call.operands]at hb;unfold Gj at h;split at h
 . rename_i b hc;obtain⟨ys,h2,ai⟩:=qZ hF c.args.toList (fun x hx=>hn▸hb x (by grind)) h;clear h;have h:=h2;clear h2;split at h
   . rename_i x t Y;obtain⟨z,hz,hl⟩:=LB (G:=G) (ty:=o.type) E.rows h;refine⟨fun hw=>?_,fun hw=>?_⟩
     . have J:=ah.1 hw;have hr:=ai J;simp only[bR]at hr;obtain⟨u,t',e1,e2,rfl⟩:=hr;obtain⟨v,hv,ao⟩:=hl J u e2;have ea:c.args.map a.eval=#[u]:=by grind
       have et:c.argTypes=#[t]:=Array.toList_inj.1 (by omega);refine fG (v:=v) (w':=w) ?_ (hK _ _ _ _ hz (Rel.step E hF hG hN hd hn E (Grow.refl S w) (hY.refl _ _) (iA J hv)));simp[execOp,ho,resolve,hc,invoke,builtin,ea,et,ao w (Agree.refl S H w)]
     . have J:¬gt G:=fun h=>by grind
       exact hK _ _ _ _ hz (Rel.step E hF hG hN hd hn E (Grow.refl S w) (hY.refl _ _) (gF J))
   . rename_i s x t t' Y;split at h
     . rename_i aa;obtain⟨bp,ag,_⟩:=aa;subst ag;subst bp;have hw:=eD ah rfl;refine iD hw ?_;have hr:=ai trivial;simp only[bR]at hr;obtain⟨us,t1,e1,e2,ux,t2,rfl,e3,rfl⟩:=hr;have ea:c.args.map a.eval=#[us,ux]:=Array.toList_inj.1 (by simp_all);have et:c.argTypes=#[t,t]:=Array.toList_inj.1 (by omega);unfold vU at h;split at h
       . rename_i k e sz U he;split at h
         . rename_i r hk;have app : ∀ news, yM S w ux news -> ((r.e = e /\ r.sz = sz /\ cT sz news /\ (r.es.length + news.length) * U <= 140737488355328) /\
               ∀k',H k'=none->K (upd ρ o.dst (.os k')) (aI (aI H k none) k' (some ⟨e,sz,r.es++news⟩)))->o.wp P a w K' Q':=by
             rintro news X ⟨⟨rfl,rfl,ae,Z⟩,aj⟩;simp only[rep]at e2;obtain⟨br,rfl,_,_,_,a5⟩:=e2;obtain⟨v',w',q1,q2,q3,q4⟩:=E.append hk a5 (ty:=o.type) he X ae Z;refine fG (v:=v') (w':=w') ?_ (hK _ _ _ _ (aj S.N E.fresh) (Rel.step E hF hG hN hd hn q3 q4 ?_ ?_))
             . simp_all[execOp,resolve,invoke,builtin]
             . intro j hj h0
               grind[aF]
             simp_all[rep,Sg.addRow]
           unfold zV at h;split at h
           . grind[G8]
           . rename_i k2;split at h
             . rename_i r2 T;simp only[rep]at e3;obtain⟨_,rfl,_,_,_,O⟩:=e3;exact app _ (GY (E.rows k2 r2 T) O) h
             grind
           . rename_i k2 a2 b2;split at h
             . rename_i r2 T;exact app _ (Dl (E.rows k2 r2 T) e3).1 h
             grind
           grind
         grind
       . rename_i es e sz U he;have app : ∀ news, yM S w ux news -> ((news ≠ [] /\ cT sz es /\ cT sz news /\ (es.length + news.length) * U <= 140737488355328) /\
             ∀k',H k'=none->K (upd ρ o.dst (.os k')) (aI H k' (some ⟨e,sz,es++news⟩)))->o.wp P a w K' Q':=by
           rintro news X ⟨⟨an,az,ae,Z⟩,aj⟩;obtain⟨v',w',q1,q2,q3,q4⟩:=E.appendNew e2 (ty:=o.type) he X an az ae Z;refine fG (v:=v') (w':=w') ?_ (hK _ _ _ _ (aj S.N E.fresh) (Rel.step E hF hG hN hd hn q3 q4 ?_ ?_))
           . simp_all[execOp,resolve,invoke,builtin]
           . intro j hj h0
             grind[aF]
           simp_all[rep,Sg.addRow]
         unfold zV at h;split at h
         . grind[G8]
         . rename_i k2;split at h
           . rename_i r2 T;simp only[rep]at e3;obtain⟨_,rfl,_,_,_,O⟩:=e3;exact app _ (GY (E.rows k2 r2 T) O) h
           grind
         . rename_i k2 a2 b2;split at h
           . rename_i r2 T;exact app _ (Dl (E.rows k2 r2 T) e3).1 h
           grind
         grind
       . rename_i k a0 b0 e sz U he;split at h
         . rename_i r hk;have app : ∀ news, yM S w ux news -> ((r.e = e /\ r.sz = sz /\ news ≠ [] /\ cT sz news /\ b0 = r.es.length /\ (r.es.length + news.length) * U <= 140737488355328) /\
               ∀(k':Nat) (al:List (List AV)),al.length<=a0->H k'=none->K (upd ρ o.dst (.oz k' al.length (al.length+(b0-a0)+news.length))) (aI (aI H k none) k' (some ⟨e,sz,al++(r.es.drop a0++news)⟩)))->o.wp P a w K' Q':=by
             rintro news X ⟨⟨rfl,rfl,an,ae,hb,Z⟩,aj⟩;obtain⟨v',w',vl,al,q1,q3,q4,q5,q6⟩:=E.appendOz hk e2 (ty:=o.type) he X an hb ae Z;refine fG (v:=v') (w':=w') ?_ (hK _ _ _ _ (aj S.N al q6 E.fresh) (Rel.step E hF hG hN hd hn q3 q4 ?_ q5))
             . simp[execOp,ho,resolve,hc,invoke,builtin,ea,et,q1]
             . intro j hj h0;rw[aF _ _ _ _ (Nat.ne_of_lt hj)];by_cases e:j=k
               . subst e;exact aB _ _ _
               . rw[aF _ _ _ _ e];exact h0
           unfold zV at h;split at h
           . exact app _ (G8 e3) h
           . rename_i k2;split at h
             . rename_i r2 T;simp only[rep]at e3;obtain⟨_,rfl,_,_,_,O⟩:=e3;exact app _ (GY (E.rows k2 r2 T) O) h
             . exact h.elim
           . rename_i k2 a2 b2;split at h
             . rename_i r2 T;exact app _ (Dl (E.rows k2 r2 T) e3).1 h
             . exact h.elim
           . exact h.elim
         . exact h.elim
       . rename_i e sz U he;have bo:rep S w (.cl []) us:=by
           have hu:us=.slice none 0 0:=by grind[rep]
           subst hu;simp only[rep]
           grind
         have app : ∀ news, yM S w ux news -> ((news = [] /\ K (upd ρ o.dst (.v (.slice none 0 0))) H) \/ (news ≠ [] /\ cT sz ([] : List (List AV)) /\ cT sz news /\ (([] : List (List AV)).length + news.length) * U <= 140737488355328) /\
             ∀k',H k'=none->K (upd ρ o.dst (.os k')) (aI H k' (some ⟨e,sz,[]++news⟩)))->o.wp P a w K' Q':=by
           rintro news X (⟨rfl,h0⟩|⟨⟨an,az,ae,Z⟩,aj⟩)
           . obtain⟨bf,z,a4,hi,_⟩:=iJ he;obtain⟨ad,c,l,rfl,_⟩:=X;have hu:us=.slice none 0 0:=by simp only[rep]at e2;exact e2
             subst hu;refine fG (v:=.slice none 0 0) (w':=w) ?_ (hK _ _ _ _ h0 (Rel.step E hF hG hN hd hn E (Grow.refl S w) (hY.refl _ _) e2));simp[execOp,ho,resolve,hc,invoke,builtin,ea,et,wQ (b:=none) (ad:=ad) (c2:=c) (ty:=o.type) a4 hi (Nat.le_refl 0)]
           obtain⟨v',w',q1,q2,q3,q4⟩:=E.appendNew bo (ty:=o.type) he X an az ae Z;refine fG (v:=v') (w':=w') ?_ (hK _ _ _ _ (aj S.N E.fresh) (Rel.step E hF hG hN hd hn q3 q4 ?_ ?_))
           . simp_all[execOp,resolve,invoke,builtin]
           . intro j hj h0
             grind[aF]
           simp_all[rep,Sg.addRow]
         unfold zV at h;split at h
         . exact app _ (G8 e3) h
         . rename_i k2;split at h
           . rename_i r2 T;simp only[rep]at e3;obtain⟨_,rfl,_,_,_,O⟩:=e3;exact app _ (GY (E.rows k2 r2 T) O) h
           . exact h.elim
         . rename_i k2 a2 b2;split at h
           . rename_i r2 T;exact app _ (Dl (E.rows k2 r2 T) e3).1 h
           . exact h.elim
         . exact h.elim
       . rename_i es e' he;have app:∀news,yM S w ux news->(news=[]/\K (upd ρ o.dst (.sl es)) H)->o.wp P a w K' Q':=by rintro news X ⟨rfl,h0⟩;obtain⟨e,sz,U⟩:=e';obtain⟨bf,z,a4,hi,_⟩:=iJ he;obtain⟨ad,c,l,rfl,_⟩:=X;have e4:=e2;simp only[rep]at e2;obtain⟨ba,n2,c2,rfl,bq,bk,_⟩:=e2;refine fG (v:=.slice ba n2 c2) (w':=w) ?_ (hK _ _ _ _ h0 (Rel.step E hF hG hN hd hn E (Grow.refl S w) (hY.refl _ _) e4));simp[execOp,ho,resolve,hc,invoke,builtin,ea,et,wQ (b:=ba) (ad:=ad) (c2:=c) (ty:=o.type) a4 hi bk]
         unfold zV at h;split at h
         . exact app _ (G8 e3) h
         . rename_i k2;split at h
           . rename_i r2 T;simp only[rep]at e3;obtain⟨_,rfl,_,_,_,O⟩:=e3;exact app _ (GY (E.rows k2 r2 T) O) h
           grind
         . rename_i k2 a2 b2;split at h
           . rename_i r2 T;exact app _ (Dl (E.rows k2 r2 T) e3).1 h
           grind
         grind
       grind
     grind
   . rename_i x y t t' Y;split at h
     . rename_i aa;obtain⟨ag,_⟩:=aa;subst ag;have hw:=eD ah rfl;refine iD hw ?_;have hr:=ai trivial;simp only[bR]at hr;obtain⟨us,t1,e1,e2,ux,t2,rfl,e3,rfl⟩:=hr;have ea:c.args.map a.eval=#[us,ux]:=Array.toList_inj.1 (by simp_all);have et:c.argTypes=#[t,t']:=Array.toList_inj.1 (by omega);have go : ∀ k a0 n0 r, H k = some r -> a0 + n0 <= r.es.length -> (∃ ad cc, us = .slice ad n0 cc /\ (0 < n0 -> ∃ g n' c', S.loc k = .slice (some ⟨g, 0, none⟩) n' c' /\ ad = some ⟨g, a0 * r.sz, none⟩)) -> ∀ news, yM S w ux news ->
           (match cK P t with
             | some (_,sz,_)=>(r.sz=sz/\cT sz news)/\K (upd ρ o.dst (.v (.int .i64 (min news.length n0:Nat)))) (aI H k (some { r with es:=r.es.take a0++news.take (min news.length n0)++r.es.drop (a0+min news.length n0) }))
             | none=>False)->o.wp P a w K' Q':=by
         intro k a0 n0 r hk ay hx news X af;split at af
         . rename_i e sz U he;obtain⟨⟨h1,h2⟩,h3⟩:=af;obtain⟨w',q1,q2,q3⟩:=E.copy hk (t':=t') (ty:=o.type) he h1 ay X h2 hx;refine fG (v:=goInt (min news.length n0:Nat)) (w':=w') ?_ (hK _ _ _ _ h3 (Rel.step E hF hG hN hd hn q2 q3 ?_ (by rfl)))
           . simp_all[execOp,resolve,invoke,builtin]
           . intro j hj h0
             grind[aF]
         grind
       have src:∀F:List (List AV)->Prop,zV H y F->∃news,yM S w ux news/\F news:=by
         intro F hF;unfold zV at hF;split at hF
         . grind[G8]
         . rename_i k2;split at hF
           . rename_i r2 T;simp only[rep]at e3;obtain⟨_,rfl,_,_,_,O⟩:=e3;exact⟨_,GY (E.rows k2 r2 T) O,hF⟩
           grind
         . rename_i k2 a2 b2;split at hF
           . rename_i r2 T;exact⟨_,(Dl (E.rows k2 r2 T) e3).1,hF⟩
           grind
         grind
       unfold Z5 apU at h;split at h
       . rename_i k;split at h
         . rename_i r hk;obtain⟨news,hs,af⟩:=src _ h;have hR:=E.rows k r hk;simp only[rep]at e2;obtain⟨_,rfl,ad,n,cc,ac⟩:=e2;obtain⟨xs,aq,_,_⟩:=hR.sl ac;have hn:n=r.es.length/\(0<r.es.length->∃g,ad=some ⟨g,0,none⟩):=by
             rcases aq.2 with⟨hv,h0⟩|⟨g,cap,cur,hv,_⟩
             all_goals grind
           refine go k 0 r.es.length r hk (by omega) ⟨ad,cc,by grind,fun hp=>?_⟩ news hs af
           grind
         grind
       . rename_i k a0 b0;split at h
         . rename_i r hk;obtain⟨news,hs,af⟩:=src _ h;have hR:=E.rows k r hk;obtain⟨_,hb,bg⟩:=Dl hR e2;simp only[rep]at e2;obtain⟨_,ad,n,c0,ax,cc,ac,rfl,be,bc,ar,_,a9,_⟩:=e2;refine go k a0 (b0-a0) r hk (by omega) ⟨ax,cc,rfl,fun hp=>?_⟩ news hs af;obtain⟨g,rfl,rfl⟩:=ar (by omega);exact⟨g,n,c0,ac,by rw[hR.sz]⟩
         grind
       grind
     grind
   . rename_i x t Y;split at h
     . rename_i aa;obtain⟨ag,_⟩:=aa;subst ag;have hw:=eD ah rfl;refine iD hw ?_;have hr:=ai trivial;simp only[bR]at hr;obtain⟨us,t1,e1,e2,rfl⟩:=hr;have ea:c.args.map a.eval=#[us]:=Array.toList_inj.1 (by simp_all);have et:c.argTypes=#[t]:=Array.toList_inj.1 (by omega);have go : ∀ k a0 n0 r, H k = some r -> a0 + n0 <= r.es.length -> (∃ ad cc, us = .slice ad n0 cc /\ (0 < n0 -> ∃ g n' c', S.loc k = .slice (some ⟨g, 0, none⟩) n' c' /\ ad = some ⟨g, a0 * r.sz, none⟩)) ->
           (match cK P t with
             | some (e,sz,_)=>match dX P e with
               | some zs=>r.sz=sz/\K (upd ρ o.dst .any) (aI H k (some { r with es:=r.es.take a0++List.replicate n0 zs++r.es.drop (a0+n0) }))
               | none=>False
             | none=>False)->o.wp P a w K' Q':=by
         intro k a0 n0 r hk ay hx af;split at af
         . rename_i e sz U he;split at af
           . rename_i zs bi;obtain⟨h1,h3⟩:=af;obtain⟨w',q1,q2,q3⟩:=E.clear hk (ty:=o.type) he bi h1 ay hx;refine fG (v:=.tuple #[]) (w':=w') ?_ (hK _ _ _ _ h3 (Rel.step E hF hG hN hd hn q2 q3 ?_ (by grind[rep])))
             . simp[execOp,ho,resolve,hc,invoke,builtin,ea,et,q1]
             . intro j hj h0
               grind[aF]
           grind
         grind
       unfold YS apU at h;split at h
       . rename_i k;split at h
         . rename_i r hk;have hR:=E.rows k r hk;simp only[rep]at e2;obtain⟨_,rfl,ad,n,cc,ac⟩:=e2;obtain⟨xs,aq,_,_⟩:=hR.sl ac;have hn:n=r.es.length/\(0<r.es.length->∃g,ad=some ⟨g,0,none⟩):=by
             rcases aq.2 with⟨hv,h0⟩|⟨g,cap,cur,hv,_⟩
             all_goals grind
           refine go k 0 r.es.length r hk (by omega) ⟨ad,cc,by grind,fun hp=>?_⟩ h
           grind
         grind
       . rename_i k a0 b0;split at h
         . rename_i r hk;have hR:=E.rows k r hk;obtain⟨_,hb,bg⟩:=Dl hR e2;simp only[rep]at e2;obtain⟨_,ad,n,c0,ax,cc,ac,rfl,be,bc,ar,_,a9,_⟩:=e2;refine go k a0 (b0-a0) r hk (by omega) ⟨ax,cc,rfl,fun hp=>?_⟩ h;obtain⟨g,rfl,rfl⟩:=ar (by omega);exact⟨g,n,c0,ac,by rw[hR.sz]⟩
         grind
       grind
     grind
   . rename_i x y t t' Y;obtain⟨z,hz,hl⟩:=J6 (P:=P) (S:=S) (w:=w) (H:=H) (G:=G) (tys:=c.argTypes) (ty:=o.type) h;refine⟨fun hw=>?_,fun hw=>?_⟩
     . have J:=ah.1 hw;have hr:=ai J;simp only[bR]at hr;obtain⟨us,t1,e1,e2,ux,t2,rfl,e3,rfl⟩:=hr;obtain⟨v,hv,ao⟩:=hl J us ux e2 e3;have ea:c.args.map a.eval=#[us,ux]:=Array.toList_inj.1 (by simp_all);refine fG (v:=v) (w':=w) ?_ (hK _ _ _ _ hz (Rel.step E hF hG hN hd hn E (Grow.refl S w) (hY.refl _ _) (iA J hv)));simp_all[execOp,resolve,invoke,builtin,Agree.refl]
     . have J:¬gt G:=fun h=>by grind
       exact hK _ _ _ _ hz (Rel.step E hF hG hN hd hn E (Grow.refl S w) (hY.refl _ _) (gF J))
   . rename_i x y t t' Y;obtain⟨z,hz,hl⟩:=Kx (P:=P) (S:=S) (w:=w) (H:=H) (G:=G) (tys:=c.argTypes) (ty:=o.type) h;refine⟨fun hw=>?_,fun hw=>?_⟩
     . have J:=ah.1 hw;have hr:=ai J;simp only[bR]at hr;obtain⟨us,t1,e1,e2,ux,t2,rfl,e3,rfl⟩:=hr;obtain⟨v,hv,ao⟩:=hl J us ux e2 e3;have ea:c.args.map a.eval=#[us,ux]:=Array.toList_inj.1 (by simp_all);refine fG (v:=v) (w':=w) ?_ (hK _ _ _ _ hz (Rel.step E hF hG hN hd hn E (Grow.refl S w) (hY.refl _ _) (iA J hv)));simp_all[execOp,resolve,invoke,builtin,Agree.refl]
     . have J:¬gt G:=fun h=>by grind
       exact hK _ _ _ _ hz (Rel.step E hF hG hN hd hn E (Grow.refl S w) (hY.refl _ _) (gF J))
   grind
 . rename_i f hc;obtain⟨yf,h2,hf⟩:=bF (S:=S) (w:=w) h;clear h;have h:=h2;clear h2;split at h
   . rename_i g bd a6 a7;by_cases a8:nl=true
     . rw[if_pos a8]at h;obtain⟨ag,bt,bm,h⟩:=h;have hw:=ah.2 ag;obtain⟨first,A,av,h2,h3⟩:=Fb a7 (hf ag _ (dM hF (hn▸hb f (by grind))));have ak:bR S w (bd++c.args.toList.map (Q5 ρ)++a6) (first++c.args.map a.eval++A).toList:=by simp only[Array.toList_append];refine fZ _ _ _ _ (fZ _ _ _ _ h2 ?_) h3;simp_all[IW]
       have ab:(execOp a.eval o).run P w=.ok (.enter g (first++c.args.map a.eval++A)) w:=by
         simp only[execOp,ho];rw[rU hc av]
         grind[invoke,vS]
       refine iD hw ?_;have I:=h S w _ E ak;unfold Oper.wp;rw[ab];simp only[Oper.upon,Array.toArray_toList]at I |-;refine I.mono fun e w' ⟨v,r,H',S',he,hr,am,hv,ap,au⟩=>?_
       subst he;exact hK _ _ _ _ hr (Rel.step E hF hG hN hd hn am ap au hv)
     rw[if_neg a8]at h;obtain⟨ys,h2,ai⟩:=qZ hF c.args.toList (fun x hx=>hn▸hb x (by grind)) h;clear h;obtain⟨bm,h⟩:=h2;have bj:=fun hg=>Fb a7 (hf hg _ (dM hF (hn▸hb f (by grind))))
     have Y:gt G->∃first A:Array Value,a.eval f=.func (.func g) first A/\bR S w (bd++ys++a6) (first++c.args.map a.eval++A).toList:=fun hg=>by obtain⟨first,A,h1,h2,h3⟩:=bj hg;refine⟨first,A,h1,?_⟩;simp_all[fZ]
     split at h
     . rename_i aa;obtain⟨ag,_⟩:=aa;subst ag;have hw:=eD ah rfl;obtain⟨first,A,av,ak⟩:=Y trivial;have ab:(execOp a.eval o).run P w=.ok (.enter g (first++c.args.map a.eval++A)) w:=by
         simp only[execOp,ho];rw[rU hc av]
         grind[invoke,vS]
       refine iD hw ?_;have I:=h S w _ E ak;unfold Oper.wp;rw[ab];simp only[Oper.upon,Array.toArray_toList]at I |-;refine I.mono fun e w' ⟨v,r,H',S',he,hr,am,hv,ap,au⟩=>?_
       subst he;exact hK _ _ _ _ hr (Rel.step E hF hG hN hd hn am ap au hv)
     . obtain⟨r,hq,hk⟩:=h;refine⟨fun hw=>?_,fun hw=>?_⟩
       . have J:=ah.1 hw;obtain⟨first,A,av,ak⟩:=Y J;have ab:(execOp a.eval o).run P w=.ok (.enter g (first++c.args.map a.eval++A)) w:=by
           simp only[execOp,ho];rw[rU hc av]
           grind[invoke,vS]
         rcases hq J with hq|⟨x,rfl,bn⟩
         . obtain⟨v,bh⟩:=hq.val;obtain⟨hv,I⟩:=hq.calls bh E ak;rw[Tq (by grind)]at hk;unfold Oper.wp;rw[ab];simp only[Oper.upon,Array.toArray_toList]at I |-;refine I.mono fun e w' ⟨he,p1,p2,p3,p4,p5⟩=>?_
           subst he;exact hK _ _ _ _ hk (Rel.step E hF hG hN hd hn (E.after p4 p5) (E.grow p1 p2 p3 p4 p5) (hY.refl _ _) (iA J (hv S w')))
         . cases aw with
           | true=>exact hk.elim
           | false=>
             have I:=(PC.use (H:=H) bn (K:=fun y H'=>y=x/\H'=H) ⟨rfl,rfl⟩) S w _ E ak;unfold Oper.wp;rw[ab];simp only[Oper.upon,Array.toArray_toList]at I |-;refine I.mono fun e w' ⟨v,r,H',S',he,⟨hr,hH⟩,am,hv,ap,au⟩=>?_
             subst he hr hH;exact hK _ _ _ _ hk (Rel.step E hF hG hN hd hn am ap au (iA J hv))
       . have J:¬gt G:=fun h=>by grind
         obtain⟨z,hk⟩:=UH hk;exact hK _ _ _ _ hk (Rel.step E hF hG hN hd hn E (Grow.refl S w) (hY.refl _ _) (gF J))
   grind
 grind
end
end Go.Aw
end
