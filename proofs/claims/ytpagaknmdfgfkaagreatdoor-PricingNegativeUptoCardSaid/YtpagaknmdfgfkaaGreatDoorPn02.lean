import Derived.MapKept
import Derived.Lib.ItoaMem
import Derived.Lib.TrailingZeros
import Derived.ArgAppend
import Derived.Deep.LoopGhost
import Derived.Test.YtpagaknmdfgfkaaGreatDoorPn01
set_option linter.unusedSimpArgs false
set_option linter.unusedVariables false
set_option linter.defProp false
set_option maxRecDepth 100000
section
namespace Go.Aw
open Go.RowKit
section
variable{P:Program}{S:Sg}{H:aG}{w:World}{G:Option Bool}{K:AV->Prop}
theorem jV{n:Nat}:∀{l:List (List AV)},dM n l↔∀cs∈l,cs.length=n
 | []=>by simp[dM]
 | x::r=>by simp[dM,jV (l:=r)]
def zS{α:Type}{n:Nat}{f:α->List AV}(h:∀x,(f x).length=n)(l:List α):dM n (l.map f):=jV.2 fun cs E=>by grind
def afD{b:Bool}{u:Value}(h:rep S w (.v (.bool b)) u):u=.bool b:=by grind[rep]
theorem PL{c:Bool}{x y:AV}{u v:Value}(E:c=true->rep S w x u)(F:c=false->rep S w y v):rep S w (wW c x y) (if c then u else v):=by
 unfold wW
 grind
def Qi{c:Bool}{x y:AV}(h:Dc G c x y K):
  ∃z,K z/\(gt G->∀u v,rep S w x u->rep S w y v->rep S w z (if c then u else v)):=by
 unfold Dc at h
 grind[PL,rep]
def K8{v:Value}(h:v.oneCell'=true):v.cells=#[v]:=by cases v <;> first|rfl|grind[Value.oneCell']
def Ap{x:AV}{K:List AV->Prop}(h:oW x K):∃cs,K cs/\∀u,rep S w x u->∃l:List Value,u.cells=l.toArray/\bO S w cs l/\(∀v∈l,v.oneCell'=true):=by
 have F:∀(x:AV) (u:Value),rep S w x u->u.oneCell'=true->∃l:List Value,u.cells=l.toArray/\bO S w [x] l/\(∀v∈l,v.oneCell'=true):=fun x u E h1=>⟨[u],K8 h1,by grind[bO],by grind⟩
 unfold oW at h;split at h
 ·refine⟨_,h,fun u E=>?_⟩;simp only[rep]at E;obtain⟨l,rfl,h1,I⟩:=E;exact⟨l,rfl,h1,I⟩
 ·grind[rep]
 ·refine⟨_,h,fun u E=>F _ u E ?_⟩;simp only[rep]at E;obtain⟨_,_,_,rfl,_⟩:=E;rfl
 ·refine⟨_,h,fun u E=>F _ u E ?_⟩;simp only[rep]at E;obtain⟨_,_,rfl,_⟩:=E;rfl
 ·refine⟨_,h,fun u E=>F _ u E ?_⟩;simp only[rep]at E;obtain⟨_,_,_,_,_,rfl⟩:=E;rfl
 ·refine⟨_,h,fun u E=>F _ u E ?_⟩;simp only[rep]at E;obtain⟨_,_,_,_,_,rfl⟩:=E;rfl
 grind
def Gc(v:Value):rep S w (tR v) v:=by
 unfold tR;split
 ·unfold rep
  grind
 rfl
theorem oA:∀(l:List Value),bO S w (l.map tR) l
 | []=>by rfl
 | v::r=>by simp only[List.map_cons,bO];exact⟨v,r,rfl,Gc v,oA r⟩
def FU:∀(l:List Value) (i:Nat) (A:Array Value) (o:Nat),o+i+l.length<=A.size ->
  ((l.zipIdx i).foldl (fun cs (p:Value×Nat)=>cs.setIfInBounds (o+p.2) p.1) A).toList=A.toList.take (o+i)++l++A.toList.drop (o+i+l.length)
 | [],i,A,o,h=>by simp
 | v::r,i,A,o,h=>by
  simp only[List.zipIdx_cons,List.foldl_cons,List.length_cons]at h |-;rw[FU r (i+1) _ o (by grind)];have F:(A.setIfInBounds (o+i) v).toList=A.toList.set (o+i) v:=by simp
  rw[F,show o+(i+1)=o+i+1 by omega,List.take_set,List.drop_set_of_lt (by omega)];have E:o+i<A.toList.length:=by grind
  have I:(List.take (o+i+1) A.toList).set (o+i) v=List.take (o+i) A.toList++[v]:=by
   rw[List.take_succ_eq_append_getElem E,List.set_append_right _ _ (by grind)];have:(List.take (o+i) A.toList).length=o+i:=by grind
   simp_all
  rw[I];simp only[List.append_assoc,List.cons_append,List.nil_append];rw[show o+i+1+r.length=o+i+(r.length+1)by omega]
def Bf{places:List (Nat×Nat)}{place:Nat->Option (Nat×Nat)}(O:∀i X,places[i]?=some X->place i=some X):∀(E:List (Nat×List AV)) (vs:List (Nat×Value)) (cs:List AV) (A:Array Value) (cs':List AV),
  wG places cs E=some cs'->bO S w cs A.toList->(∀v∈A.toList,v.oneCell'=true) ->
  E.length=vs.length->(∀(j i:Nat) (c:List AV),E[j]?=some (i,c)->∃(v:Value) (l:List Value),vs[j]?=some (i,v)/\v.cells=List.toArray l/\bO S w c l/\∀u∈l,u.oneCell'=true) ->
  ∃T,Instr.fill place A vs=some T/\bO S w cs' T.toList/\(∀v∈T.toList,v.oneCell'=true)
 | [],vs,cs,A,cs',F,hr,h1,hl,_=>by simp only[wG]at F;injection F with F;subst F;have:vs=[]:=List.eq_nil_of_length_eq_zero (by grind);subst this;exact⟨A,rfl,hr,h1⟩
 | (i,c)::rest,vs,cs,A,cs',F,hr,h1,hl,hv=>by
  obtain⟨v,l,e1,e2,e3,e4⟩:=hv 0 i c (by simp);cases vs with
  | nil=>grind
  | cons q vs=>
   simp at e1;subst e1;simp only[wG]at F;cases hp:places[i]? with
   | none=>grind
   | some X=>
    obtain⟨off,n⟩:=X;simp only[hp]at F;split at F
    ·rename_i hc;have Y:l.length=n:=by grind[jB]
     have hA:A.toList.length=cs.length:=jB _ _ hr;have aa:A.size=cs.length:=by omega
     have Z:=FU l 0 A off (by omega);simp only[Nat.add_zero]at Z;have I:bO S w (cs.take off++c++cs.drop (off+n)) (A.toList.take off++l++A.toList.drop (off+l.length)):=by grind[gG,vD,yO]
     have J:∀u∈A.toList.take off++l++A.toList.drop (off+l.length),u.oneCell'=true:=by grind
     rw[<-Z]at I J;obtain⟨T,f1,f2,f3⟩:=Bf O rest vs _ _ cs' F I J (by grind) (fun j i c hj=>by simpa using hv (j+1) i c (by grind));refine⟨T,?_,f2,f3⟩;simp only[Instr.fill,O i _ hp,e2,List.size_toArray,Y]
     grind
    grind
def pP{t:TypeId}{z:List AV}(h:eD P t=some z):∃i v,P.info? t=some i/\i.zero=some v/\z=v.cells.toList.map tR/\v.cells.size=i.size/\i.size≠0/\(∀u∈v.cells.toList,u.oneCell'=true):=by grind[eD]
def bB{x:AV}{k:AV->Prop}(h:cA G x k):∃y,k y/\(gt G->∀u,rep S w x u->rep S w y u):=by
 unfold cA at h;split at h
 ·refine⟨_,h.2,fun F u E=>?_⟩;simp only[rep]at E;refine E.1 ?_;have:=h.1;cases G with
  | none=>exact this
  | some b=>exact this F
 grind
def Y6{op:UnOp}{x:AV}(h:aun op x K):∃z,K z/\∀u,rep S w x u->AX P S H w z (Op.unary op u):=by
 unfold aun at h;split at h
 ·refine⟨_,h,fun u E=>?_⟩;simp only[rep]at E;subst E;exact iX rC fun w'=>by rfl
 ·refine⟨_,h,fun u E=>?_⟩;simp only[rep]at E;subst E;exact iX rC fun w'=>by rfl
 grind
def Y7{t:TypeId}{k:IntKind}(h:La P t=some k):P.underlying t=some (.int k):=by grind[La]
def TZ{t:TypeId}(h:IF P t=true):∃e,P.underlying t=some (.slice e)/\P.underlying e=some (.int .u8):=by grind[IF]
def J4:∀(es:List (List AV)) (ns:List Int) (o:Nat) {b sz:Nat},vM es=some ns->jD S w b sz o es->0<sz->ns.length=es.length/\∀j n,ns[j]?=some n->w.cell? ⟨b,o+j,none⟩=some (.int .u8 n)
 | [],ns,o,b,sz,h,_,_=>by grind[vM]
 | es::r,ns,o,b,sz,h,he,hs=>by
  unfold vM at h;split at h
  ·rename_i e;simp at e
  ·rename_i n r' e;injection e with O e2;subst O e2;cases F:vM r with
   | none=>simp[F]at h
   | some ns'=>
    simp[F]at h;subst h;simp only[jD,dU]at he;obtain⟨h1,⟨⟨u,X,_,J⟩,_⟩,T⟩:=he;simp only[rep]at J;subst J;have E:sz=1:=by simpa using h1.symm
    subst E;obtain⟨Y,Z⟩:=J4 r ns' (o+1) F T hs;refine⟨by simp[Y],fun j m I=>?_⟩;cases j with
    | zero=>simp at I;subst I;simpa using X
    | succ j=>rw[show o+(j+1)=o+1+j by omega];exact Z j m (by simpa using I)
  ·simp at h
def SJ{src dst:TypeId}{x:AV}(h:Bi P src dst x K):∃z,K z/\∀u,rep S w x u->AX P S H w z (convert src dst u):=by
 unfold Bi at h;split at h
 ·split at h
  ·rename_i k k' hk aa;refine⟨_,h,fun u F=>?_⟩;simp only[rep]at F;subst F;refine iX rC fun w'=>?_
   simp_all[convert,run_underlying,Y7,Conv.intToInt]
  grind
 ·split at h
  ·rename_i X;refine⟨_,h,fun u F=>?_⟩;simp only[rep]at F;subst F;refine iX rC fun w'=>?_
   simp_all[convert,run_underlying,mH]
  grind
 ·rename_i es;split at h
  ·rename_i X;split at h
   ·rename_i ns Y;refine⟨_,h,fun u F=>?_⟩;obtain⟨e,he,T⟩:=TZ X.1;have hd:=mH X.2;simp only[rep]at F;obtain⟨ad,n,c,rfl,h1,_,_,J⟩:=F;refine⟨_,rC,fun w' ha=>?_⟩;have I:es=[]->ns=[]:=fun e=>by grind[vM]
    cases ad with
    | none=>
     have:es=[]:=by grind
     rw[run_convert_bytes_nil w' src e he T n c dst hd,I this];rfl
    | some a=>
     have E:(loadCells a n).run P w'=.ok (ns.map (Value.int .u8)).toArray w':=by
      rcases J with J|⟨b,o,sz,J,hb,Z,O⟩
      ·have hn:n=0:=by grind
       simp_all[loadCells,loadCellsFrom]
      ·injection J with J;subst J;obtain⟨i1,i2⟩:=J4 es ns o Y O Z;have hn:n=(ns.map (Value.int .u8)).length:=by grind
       rw[hn];refine run_loadCells_list w' _ _ fun j v hj=>?_
       rw[Addr.add_lit];simp at hj;obtain⟨m,hm,rfl⟩:=hj;exact ha.cell hb (i2 j m hm)
     rw[run_convert_bytes_string w' src dst e _ n c he T hd,run_bytesToString w' a n c ns E,foldl_push_bytes]
     congr 3
     simp
   grind
  grind
 grind
def JU{t:TypeId}{e sz E:Nat}(I:cN P t=some (e,sz,E)):P.underlying t=some (.slice (P.elem t))/\∀w:World,(sizeOf (P.elem t)).run P w=.ok sz w:=by obtain⟨i,z,J,O,F,_⟩:=jW I;simp_all[Program.elem,sizeOf,typeInfo]
def G6{t:TypeId}{x a b:AV}(h:GB P G t x a b K):
  ∃z,K z/\(gt G->∀(u F E:Value),rep S w x u->rep S w a F->rep S w b E->AX P S H w z (Instr.sliceAt t u none (some F) (some E))):=by
 unfold GB at h;split at h
 ·rename_i es ka a kb b;split at h
  ·rename_i e he;refine⟨_,h.2,fun hg u F E O h1 T=>?_⟩;obtain⟨e1,e2⟩:=h.1 hg;simp only[rep]at O h1 T;subst h1 T e1 e2;obtain⟨X,n,c,rfl,rfl,Y,hm,Z⟩:=O;obtain⟨I,J⟩:=JU (P:=P) (t:=t) (by rw[he]);refine⟨.slice X es.length es.length,?_,fun w' _=>?_⟩
   ·grind[rep]
   ·rw[run_sliceAt_slice w' t _ _ _ _ I];have ab:(es.length:Int)<=(c:Int):=by exact_mod_cast Y
    rcases Z with rfl|⟨bb,o,sz,rfl,_⟩
    ·simp[Instr.slice,run_underlying I,Instr.sliceBounds,Instr.sliceBound,asIntOf,J]
    ·simp[Instr.slice,run_underlying I,Instr.sliceBounds,Instr.sliceBound,asIntOf,J,Addr.add];intro aa;omega
  grind
 grind
def Jy{es:List (List AV)}{T:Option Addr}{n c sz a b:Nat}(Y:rep S w (.sl es) (.slice T n c))(Z:dM sz es)(ac:a<=b)(hb:b<=es.length):
  rep S w (.sl ((es.take b).drop a)) (sliced T a b c sz):=by
 simp only[rep]at Y |-;obtain⟨ae,n',c',e,h1,h2,h3,X⟩:=Y;injection e with O e2 e3;subst O e2 e3;refine⟨_,_,_,rfl,by grind,by omega,by omega,?_⟩;by_cases ab:(es.take b).drop a=[]
 ·grind
 ·refine .inr ?_;rcases X with X|⟨bl,o,E,rfl,J,hs,F⟩
  ·grind
  ·have hl:0<es.length:=by grind
   have I:E=sz:=by
    have O:=(vJ es o 0 F hl).1
    grind[jV]
   subst I;have aa:a<b:=by grind
   refine⟨bl,o+a*E,E,?_,J,hs,?_⟩
   all_goals grind[Addr.add_lit,Ds,Aq]
def NY{t:TypeId}{x:AV}{lo hi:Option AV}(h:oU P G t x lo hi K):
  ∃z,K z/\(gt G->∀(u:Value) (Y vh:Option Value),rep S w x u->(∀y,lo=some y->∃v,Y=some v/\rep S w y v)->(lo=none->Y=none)->(∀y,hi=some y->∃v,vh=some v/\rep S w y v)->(hi=none->vh=none) ->
   AX P S H w z (Instr.sliceAt t u Y vh none)):=by
 unfold oU at h;split at h
 ·rename_i es ka a kb b;split at h
  ·rename_i e sz aa he;refine⟨_,h.2,fun X u Y vh E O _ J _=>?_⟩;obtain⟨⟨h0,h1,h2⟩,h3⟩:=h.1 X;obtain⟨v,rfl,F⟩:=O _ rfl;obtain⟨v',rfl,I⟩:=J _ rfl;simp only[rep]at F I;subst F I;have T:=E;simp only[rep]at T;obtain⟨ad,n,c,rfl,e1,e2,_⟩:=T;obtain⟨Z,hz⟩:=JU he;have:=Jy (a:=a.toNat) (b:=b.toNat) E h3 (by omega) (by omega);refine⟨_,this,fun w' _=>?_⟩;rw[run_sliceAt_slice w' t _ _ _ _ Z,run_slice_lh w' t ad n c Z ka kb a b h0 h1 (by omega),hz];rfl
  grind
 ·rename_i es ka a;split at h
  ·rename_i e sz aa he;refine⟨_,h.2,fun X u Y vh E O _ _ J=>?_⟩;obtain⟨⟨h0,h1⟩,h3⟩:=h.1 X;obtain⟨v,rfl,F⟩:=O _ rfl;have:=J rfl;subst this;simp only[rep]at F;subst F;have T:=E;simp only[rep]at T;obtain⟨ad,n,c,rfl,e1,e2,_⟩:=T;obtain⟨Z,hz⟩:=JU he;have:=Jy (a:=a.toNat) (b:=es.length) E h3 (by omega) (by omega);rw[List.take_length,e1]at this;refine⟨_,this,fun w' _=>?_⟩;simp_all[run_sliceAt_slice,run_slice_l]
  grind
 ·rename_i es kb b;split at h
  ·rename_i e he;refine⟨_,h.2,fun X u Y vh E _ O J _=>?_⟩;obtain⟨h0,h1⟩:=h.1 X;obtain⟨v,rfl,F⟩:=J _ rfl;have:=O rfl;subst this;simp only[rep]at F;subst F;obtain⟨Z,hz⟩:=JU he;simp only[rep]at E;obtain⟨ad,n,c,rfl,e1,e2,e3,e4⟩:=E;refine⟨sliced ad 0 b.toNat c e.2.1,?_,fun w' _=>?_⟩
   ·simp only[rep];refine⟨ad,b.toNat,c,?_,by grind,by omega,e3,?_⟩
    ·simp[sliced,Addr.add_zero']
    ·rcases e4 with e4|⟨bl,o,af,rfl,ac,ae,ab⟩
     ·grind
     ·exact .inr ⟨bl,o,af,rfl,ac,ae,Aq es o _ ab⟩
   ·rw[run_sliceAt_slice w' t _ _ _ _ Z,run_slice_h w' t ad n c Z kb b h0 (by omega),hz];rfl
  grind
 ·rename_i s ka a kb b;split at h
  ·rename_i Z;refine⟨_,h.2,fun X u Y vh E O _ J _=>?_⟩;obtain⟨h0,h1,h2⟩:=h.1 X;obtain⟨v,rfl,F⟩:=O _ rfl;obtain⟨v',rfl,I⟩:=J _ rfl;simp only[rep]at E F I;subst E F I;refine iX rC fun w'=>?_
   grind[run_sliceAt_string,mH,run_slice_string]
  grind
 ·rename_i s ka a;split at h
  ·rename_i Z;refine⟨_,h.2,fun X u Y vh E O _ _ J=>?_⟩;obtain⟨h0,h1⟩:=h.1 X;obtain⟨v,rfl,F⟩:=O _ rfl;have:=J rfl;subst this;simp only[rep]at E F;subst E F;refine iX rC fun w'=>?_
   grind[run_sliceAt_string,mH,run_slice_string_l]
  grind
 ·rename_i s kb b;split at h
  ·rename_i Z;refine⟨_,h.2,fun X u Y vh E _ O J _=>?_⟩;obtain⟨h0,h1⟩:=h.1 X;obtain⟨v,rfl,F⟩:=J _ rfl;have:=O rfl;subst this;simp only[rep]at E F;subst E F;refine iX rC fun w'=>?_
   grind[run_sliceAt_string,mH,run_slice_string_h]
  grind
 grind
def UO{k:Nat}{r:Row}(hH:BG S w H)(X:H k=some r){a b c:Nat}{F:Option Addr}{n:Nat}(T:S.loc k=.slice F n c)(J:a<=b)(hb:b<=r.es.length):n=r.es.length/\n<=c/\rep S w (.oz k a b) (sliced F a b c r.sz):=by
 have O:=hH k r X;obtain⟨xs,Y,_,_⟩:=O.sl T;have E:(F=none/\n=0/\c=0/\r.es.length=0)\/∃g,F=some ⟨g,0,none⟩/\n=r.es.length/\n<=c:=by
  rcases Y.2 with⟨Z,I⟩|⟨g,cap,cur,Z,_,_,ab,_⟩
  all_goals grind
 have I:n=r.es.length/\n<=c:=by omega
 refine⟨I.1,I.2,?_⟩;simp only[rep,sliced];refine⟨O.lt,F,n,c,_,_,T,rfl,J,by omega,fun aa=>?_,fun ha=>?_⟩
 ·rcases E with⟨_,h1,h2,h3⟩|⟨g,h0,h1,h2⟩
  ·omega
  ·subst h0;refine⟨g,rfl,?_⟩;rw[if_neg (by omega)];simp[Addr.add_lit,O.sz]
 grind[Addr.add_lit]
def vA{H':aG}{t:TypeId}{x:AV}{lo hi:Option AV}(hH:BG S w H)(h:asl P G H t x lo hi K):
  ∃z,K z/\(gt G->∀(u:Value) (J O:Option Value),rep S w x u->(∀y,lo=some y->∃v,J=some v/\rep S w y v)->(lo=none->J=none)->(∀y,hi=some y->∃v,O=some v/\rep S w y v)->(hi=none->O=none) ->
   AX P S H' w z (Instr.sliceAt t u J O none)):=by
 unfold asl at h;split at h
 ·rename_i k;split at h
  ·rename_i r e sz aa hk he;obtain⟨hs,hz⟩:=JU he;split at h
   ·rename_i ka a kb b;refine⟨_,h.2,fun hg u J O F Y _ X _=>?_⟩;obtain⟨⟨h0,h1,h2⟩,h3⟩:=h.1 hg;obtain⟨v,rfl,I⟩:=Y _ rfl;obtain⟨v',rfl,T⟩:=X _ rfl;simp only[rep]at I T F;subst I T;obtain⟨_,rfl,ad,n,c,E⟩:=F;obtain⟨q1,q2,Z⟩:=UO (a:=a.toNat) (b:=b.toNat) hH hk E (by omega) (by omega);rw[E];refine⟨_,Z,fun w' _=>?_⟩;rw[run_sliceAt_slice w' t _ _ _ _ hs,run_slice_lh w' t ad n c hs ka kb a b h0 h1 (by omega),hz,h3];rfl
   ·rename_i ka a;refine⟨_,h.2,fun hg u J O F Y _ _ X=>?_⟩;obtain⟨⟨h0,h1⟩,h3⟩:=h.1 hg;obtain⟨v,rfl,I⟩:=Y _ rfl;have:=X rfl;subst this;simp only[rep]at I F;subst I;obtain⟨_,rfl,ad,n,c,E⟩:=F;obtain⟨q1,q2,Z⟩:=UO (a:=a.toNat) (b:=r.es.length) hH hk E (by omega) (by omega);rw[E];refine⟨_,Z,fun w' _=>?_⟩;simp_all[run_sliceAt_slice,run_slice_l]
   ·rename_i kb b;refine⟨_,h.2,fun hg u J O F _ Y X _=>?_⟩;obtain⟨⟨h0,h1⟩,h3⟩:=h.1 hg;obtain⟨v,rfl,I⟩:=X _ rfl;have:=Y rfl;subst this;simp only[rep]at I F;subst I;obtain⟨_,rfl,ad,n,c,E⟩:=F;obtain⟨q1,q2,Z⟩:=UO (a:=0) (b:=b.toNat) hH hk E (by omega) (by omega);rw[E];refine⟨_,Z,fun w' _=>?_⟩;rw[run_sliceAt_slice w' t _ _ _ _ hs,run_slice_h w' t ad n c hs kb b h0 (by omega),hz,h3];rfl
   grind
  grind
 ·exact NY h
def NJ{t:TypeId}{x i:AV}(h:Ao P G t x i K):
  ∃z,K z/\(gt G->∀u v,rep S w x u->rep S w i v->AX P S H w z (Instr.index t u v)):=by
 unfold Ao at h;split at h
 ·rename_i s k n;split at h
  ·rename_i hs;refine⟨_,h.2,fun F u v O E=>?_⟩;obtain⟨h0,h1⟩:=h.1 F;simp only[rep]at O E;subst O E;refine iX rC fun w'=>?_
   rw[run_index_string w' t s k n (mH hs),dif_pos ⟨h0,h1⟩];have T:n.toNat<s.data.size:=by simp_all
   congr 4
   rw[Array.getD,dif_pos T];rfl
  grind
 ·rename_i cs k n;split at h
  ·rename_i m s l ha;obtain⟨e,aa,O,hi,rfl,_,Z⟩:=NF ha;obtain⟨z,Y,hd⟩:=Hh (S:=S) (H:=H) (w:=w) Z h.2;refine⟨z,Y,fun F u v J E=>?_⟩;obtain⟨h0,h1⟩:=h.1 F;obtain⟨cs',rfl,I⟩:=hd F u J;simp only[rep]at E;subst E;obtain⟨r,hr,X⟩:=I;refine⟨r,hr,fun w' hw=>?_⟩;simp_all[Instr.index,asIntOf,run_underlying,sizeOf,typeInfo]
  grind
 grind
def opB(n:Nat):Operand->Bool
 | .tmp t=>decide (t<n)
 | _=>true
def FR(S:Sg)(w:World)(ρ:Env)(a:Act):Prop:=∀t,t<a.tmps.size->rep S w (ρ t) (a.tmps.getD t undef)
theorem dN{ρ:Env}{a:Act}(F:FR S w ρ a){x:Operand}(E:opB a.tmps.size x=true):rep S w (aev ρ x) (a.eval x):=by
 cases x with
 | tmp t=>simp only[opB,decide_eq_true_eq]at E;exact F t E
 | const v=>exact Gc v
 | global g=>trivial
 | func f=>rfl
def UM{ρ:Env}{a:Act}(F:FR S w ρ a){x:Operand}(E:opB a.tmps.size x=true):rep S w (OT ρ x) (a.eval x):=by
 cases x with
 | const v=>rfl
 | tmp t=>exact dN F E
 | global g=>exact dN F E
 | func f=>rfl
def G4{ρ:Env}{a:Act}(E:FR S w ρ a):∀(l:List Operand),(∀x∈l,opB a.tmps.size x=true)->bO S w (l.map (OT ρ)) (l.map a.eval)
 | [],_=>rfl
 | x::l,h=>by simp only[List.map_cons,bO];exact⟨_,_,rfl,UM E (h x (by simp)),G4 E l fun y F=>h y (by simp[F])⟩
def qV{ρ:Env}{a:Act}(O:FR S w ρ a):∀(l:List (Nat×Operand)) {K:List (Nat×List AV)->Prop},(∀p∈l,opB a.tmps.size p.2=true)->sJ G ρ l K ->
  ∃E,K E/\(gt G->E.length=(l.map fun p=>(p.1,a.eval p.2)).length /\
   ∀(j i:Nat) (c:List AV),E[j]?=some (i,c)->∃(v:Value) (l':List Value),(l.map fun p=>(p.1,a.eval p.2))[j]?=some (i,v)/\v.cells=List.toArray l'/\bO S w c l'/\∀u∈l',u.oneCell'=true)
 | [],K,_,h=>⟨[],h,fun _=>⟨rfl,by simp⟩⟩
 | (i,x)::rest,K,hb,h=>by
  simp only[sJ]at h;obtain⟨y,h,Y⟩:=bB (S:=S) (w:=w) h;obtain⟨cs,h,I⟩:=Ap (S:=S) (w:=w) h;obtain⟨E,X,F⟩:=qV O rest (fun p hp=>hb p (by grind)) h;refine⟨_,X,fun T=>?_⟩;obtain⟨Z,e2⟩:=F T;refine⟨by grind,fun j k c J=>?_⟩;cases j with
  | zero=>
   simp at J;obtain⟨rfl,rfl⟩:=J;obtain⟨l',f1,f2,f3⟩:=I _ (Y T _ (dN O (hb (i,x) (by simp))))
   grind
  | succ j=>grind
def xQ{t:TypeId}{i:TypeInfo}{I:Value}{z:List AV}{T:List (Nat×Nat)}(hi:P.info? t=some i)(aa:i.zero=some I)(h1:∀u∈I.cells.toList,u.oneCell'=true)(hr:bO S w z I.cells.toList)(J:eY P t=some T){E:List (Nat×List AV)}{vs:List (Nat×Value)}{cs:List AV}
  (Z:wG T z E=some cs) (hl:E.length=vs.length)
  (hv:∀(j i:Nat) (c:List AV),E[j]?=some (i,c)->∃(v:Value) (l:List Value),vs[j]?=some (i,v)/\v.cells=List.toArray l/\bO S w c l/\∀u∈l,u.oneCell'=true):
  ∃F,P.built t vs=some F/\bO S w cs F.toList/\∀v∈F.toList,v.oneCell'=true:=by
 unfold eY at J;split at J
 ·rename_i fs hu;obtain⟨F,f1,f2,f3⟩:=Bf (place:=fun i=>T.toArray[i]?) (fun i on h=>by grind) E vs _ I.cells cs Z hr h1 hl hv
  grind[Program.built]
 ·rename_i n e hu;cases Y:P.info? e with
  | none=>grind
  | some ie=>
   simp[Y]at J;obtain⟨F,f1,f2,f3⟩:=Bf (place:=fun i=>some (i*ie.size,ie.size)) (fun i on h=>by
    rw[<-J]at h;simp only[List.getElem?_map,Option.map_eq_some_iff]at h;obtain⟨j,h,rfl⟩:=h;have X:i<n:=by
     rcases Nat.lt_or_ge i n with O|O
     ·exact O
     ·simp[O]at h
    simp[X]at h;rw[h]) E vs _ I.cells cs Z hr h1 hl hv
   grind[Program.built]
 grind
def NV{t:TypeId}{z:List AV}{J:List (Nat×Nat)}(O:eD P t=some z)(hp:eY P t=some J){E:List (Nat×List AV)}{vs:List (Nat×Value)}{cs:List AV}
  (T:wG J z E=some cs) (Y:E.length=vs.length)
  (Z:∀(j i:Nat) (c:List AV),E[j]?=some (i,c)->∃(v:Value) (l:List Value),vs[j]?=some (i,v)/\v.cells=List.toArray l/\bO S w c l/\∀u∈l,u.oneCell'=true):
  ∃I,P.built t vs=some I/\bO S w cs I.toList/\∀v∈I.toList,v.oneCell'=true:=by
 obtain⟨i,zv,hi,F,rfl,X,_,h1⟩:=pP O;exact xQ hi F h1 (oA zv.cells.toList) hp T Y Z
end
end Go.Aw
end
section
namespace Go.Aw
open Go.RowKit
section
variable{P:Program}{S:Sg}{H:aG}{w:World}{G:Option Bool}{K:AV->Prop}
theorem Y2{a b:ByteArray}(h:a.toList=b.toList):a=b:=by grind[ByteArray.toList_eq,ByteArray.ext,Array.toList_inj]
def Zw{t:TypeId}{E:TypeId×TypeId}(h:UX P t=some E):P.underlying t=some (.map E.1 E.2):=by grind[UX]
def MQ{t:TypeId}{z:AV}(h:No P t=some z):∃v,(∀w':World,(zeroValue t).run P w'=.ok v w')/\∀S w,rep S w z v:=by
 unfold No at h;split at h
 ·rename_i i I;split at h
  ·rename_i cs F;split at h
   ·rename_i E;injection h with h;subst h;refine⟨.agg cs,fun w'=>by simp_all[zeroValue,typeInfo],fun S w=>?_⟩
    grind[rep,oA]
   grind
  ·rename_i v _ F;split at h
   ·injection h with h;subst h;simp_all[zeroValue,typeInfo,Gc]
   grind
  grind
 grind
def M0{T:TypeId}{x y:AV}{b:Bool}(h:tP P T x y=some b){u v:Value}(Z:rep S w x u)(X:rep S w y v):
  ∃d,P.underlying T=some d/\Instr.sameNow d u v=some b/\(b=true->u=v/\∀n,Instr.sameBits (n+1) v u=true):=by
 unfold tP at h;split at h
 ·rename_i a c;simp only[rep]at Z X;subst Z X;split at h
  ·rename_i k O;unfold xV at h;split at h
   ·rename_i k1 a1 k2 Y E I;cases E;cases I;split at h
    ·rename_i J;subst J;rcases pV O with⟨_,k',F⟩|⟨h0,_⟩|⟨h0,_⟩
     ·injection h with h;subst h;simp_all[Instr.sameNow,Instr.sameBits]
     all_goals omega
    grind
   ·rename_i a1 Y E I;cases E;cases I;rcases pV O with⟨h0,_⟩|⟨_,F⟩|⟨h0,_⟩
    all_goals grind[beq_toListBytes,Instr.sameNow,Y2,Instr.sameBits]
   ·rename_i a1 Y E I;cases E;cases I;rcases pV O with⟨h0,_⟩|⟨h0,_⟩|⟨_,F⟩
    ·omega
    ·omega
    ·injection h with h;subst h;simp_all[Instr.sameNow,Instr.sameBits]
   grind
  grind
 grind
def MU{Z:TypeId}{x:AV}{u:Value}{d:TypeDesc}(O:P.underlying Z=some d)(T:rep S w x u):∀(es:List (List AV)) (ms:List MapEntry) (i:Nat) {oi:Option Nat},oC S w i es ms->wV (tP P Z x) es i=some oi ->
  (oi=none->Instr.findNow d u ms i=some none)/\∀j,oi=some j->∃m cs,i<=j/\ms[j-i]?=some m/\es[j-i]?=some cs/\Instr.findNow d u ms i=some (some (j,m.val))/\m.key=u/\(∀n,Instr.sameBits (n+1) m.key u=true)/\m.born=j/\bO S w cs [m.key,m.val]
 | [],ms,i,oi,he,F=>by simp only[oC]at he;subst he;simp only[wV]at F;injection F with F;subst F;exact⟨fun _=>rfl,fun j h=>by grind⟩
 | cs::r,ms,i,oi,he,F=>by
  simp only[oC]at he;obtain⟨m,t,rfl,hb,hr,ht⟩:=he;unfold wV at F;have Y:rep S w (cs.getD 0 .any) m.key:=by cases cs<;>grind[bO]
  split at F
  ·rename_i I;injection F with F;subst F;obtain⟨d',E,h1,X⟩:=M0 I T Y;rw[O]at E;injection E with E;subst E;refine⟨fun h=>by grind,fun j J=>?_⟩;injection J with J;subst J;exact⟨m,cs,Nat.le_refl _,by simp,by simp,by grind[Instr.findNow],(X rfl).1.symm,(X rfl).2,hb,hr⟩
  ·rename_i I;obtain⟨d',E,h1,X⟩:=M0 I T Y;rw[O]at E;injection E with E;subst E;obtain⟨g1,g2⟩:=MU O T r t (i+1) ht F;refine⟨fun h=>by simp[Instr.findNow,h1,g1 h],fun j J=>?_⟩;obtain⟨m',cs',q1,q2,q3,q4,q5⟩:=g2 j J;have e:j-i=(j-(i+1))+1:=by omega
   exact⟨m',cs',by omega,by rw[e];simpa using q2,by rw[e];simpa using q3,by simp[Instr.findNow,h1,q4],q5⟩
  ·simp at F
theorem BY:∀(i:Nat) (es:List (List AV)) (ms:List MapEntry),oC S w i es ms->ms.length=es.length
 | _,[],ms,h=>by grind[oC]
 | i,cs::r,ms,h=>by simp only[oC]at h;obtain⟨m,t,rfl,_,_,E⟩:=h;simp[BY (i+1) r t E]
def QC:∀(i:Nat) (es:List (List AV)) (ms:List MapEntry) (j:Nat),oC S w i es ms->j<es.length->∃m,ms[j]?=some m/\m.born=i+j/\bO S w (es.getD j []) [m.key,m.val]
 | _,[],_,_,_,h=>by grind
 | i,cs::r,ms,0,h,_=>by grind[oC]
 | i,cs::r,ms,j+1,h,hj=>by simp only[oC]at h;obtain⟨m,t,rfl,_,_,F⟩:=h;obtain⟨E,I,J,g3⟩:=QC (i+1) r t j F (by simpa using hj);exact⟨E,by simpa using I,by omega,by simpa using g3⟩
def EF:∀(i:Nat) (es:List (List AV)) (ms:List MapEntry) (j:Nat) {cs:List AV} {m:MapEntry},oC S w i es ms->m.born=i+j->bO S w cs [m.key,m.val]->oC S w i (es.set j cs) (ms.set j m)
 | _,[],ms,_,_,_,h,_,_=>by grind[oC]
 | i,c::r,ms,0,cs,m,h,hb,hr=>by grind[oC]
 | i,c::r,ms,j+1,cs,m,h,hb,hr=>by simp only[oC]at h;obtain⟨E,t,rfl,h1,I,F⟩:=h;simp only[List.set_cons_succ,oC];exact⟨E,t.set j m,rfl,h1,I,EF (i+1) r t j F (by omega) hr⟩
def EZ:∀(i:Nat) (es:List (List AV)) (ms:List MapEntry) {cs:List AV} {m:MapEntry},oC S w i es ms->m.born=i+es.length->bO S w cs [m.key,m.val]->oC S w i (es++[cs]) (ms++[m])
 | i,[],ms,cs,m,h,hb,hr=>by grind[oC]
 | i,c::r,ms,cs,m,h,hb,hr=>by simp only[oC]at h;obtain⟨E,t,rfl,h1,I,F⟩:=h;simp only[List.cons_append,oC];exact⟨E,t++[m],rfl,h1,I,EZ (i+1) r t F (by simp at hb;omega) hr⟩
def BD{E:TypeId}{x:AV}(h:pB P E x=true){u:Value}(F:rep S w x u)(e:Bool)(n:Nat)(w':World):(∃d,P.underlying E=some d)/\(Instr.checkKey e (n+1) E u).run P w'=.ok () w':=by
 unfold pB at h;split at h
 all_goals first|(simp at h;done)|skip
 all_goals
  simp only[beq_iff_eq]at h;simp only[rep]at F;subst F;rcases pV h with⟨h0,k',hk'⟩|⟨h0,hk'⟩|⟨h0,hk'⟩ <;> first
   | (simp at h0;done)
   | exact⟨⟨_,hk'⟩,by unfold Instr.checkKey;simp only[Sem.run_bind,run_underlying hk',Result.andThen];rfl⟩
def SI{t:TypeId}{E:TypeId×TypeId}{x:AV}{r:Row}{k:Nat}{u:Value}{F:Option Nat}(X:UX P t=some E)(O:pB P E.1 x=true)(T:wV (tP P E.1 x) r.es 0=some F)(hm:aeN S w k r)(I:rep S w x u):
  ∃g ms,S.loc k=.map (some g)/\w.heap[g]?=some (.map (List.toArray ms) ms.length)/\oC S w 0 r.es ms/\P.underlying t=some (.map E.1 E.2)/\(∀e (w':World),(Instr.checkKey e 10000 E.1 u).run P w'=.ok () w') /\
   ((F=none/\∀w':World,(Instr.findKey E.1 u ms).run P w'=.ok none w') \/
   ∃j m cs,F=some j/\ms[j]?=some m/\r.es[j]?=some cs/\(∀w':World,(Instr.findKey E.1 u ms).run P w'=.ok (some (j,m.val)) w')/\m.key=u/\(∀n,Instr.sameBits (n+1) m.key u=true)/\m.born=j/\bO S w cs [m.key,m.val]):=by
 obtain⟨g,ms,h1,h2,J,_⟩:=hm;obtain⟨⟨d,Y⟩,_⟩:=BD O I true 0 w;refine⟨g,ms,h1,h2,J,Zw X,fun e w'=>(BD O I e 9999 w').2,?_⟩;obtain⟨f1,Z⟩:=MU Y I r.es ms 0 J T;cases F with
 | none=>simp_all[Instr.findKey,run_underlying]
 | some j=>obtain⟨m,cs,_,q2,q3,q4,q5,q6,q7,q8⟩:=Z j rfl;simp_all[Instr.findKey,run_underlying]
def Ko{cs:List AV}{a b:Value}(h:bO S w cs [a,b]):∃x y,cs=[x,y]/\rep S w x a/\rep S w y b:=by
 cases cs with
 | nil=>grind[bO]
 | cons x cs=>
  simp only[bO]at h;obtain⟨u,t,e,h1,I⟩:=h;injection e with E F;subst E F;cases cs with
  | nil=>grind[bO]
  | cons y cs=>simp only[bO]at I;obtain⟨u,t,e,J,O⟩:=I;injection e with E F;subst E F;cases cs<;>grind[bO]
def Li{t:TypeId}{x J:AV}{ok:Bool}(hH:BG S w H)(h:xL P H t x J ok K):
  ∃z,K z/\(gt G->∀u v,rep S w x u->rep S w J v->AX P S H w z (Instr.lookup t u v ok)):=by
 unfold xL Hc at h;split at h
 ·rename_i j;split at h
  ·rename_i r kt hj ht;split at h
   ·rename_i oi hf;obtain⟨hp,h⟩:=h;split at h
    ·rename_i z hz;refine⟨_,h,fun _ u v hu hv=>?_⟩;simp only[rep]at hu;obtain⟨_,rfl,g0,Y⟩:=hu;obtain⟨g,ms,h1,h2,h3,T,O,X⟩:=SI ht hp hf ((hH j r hj).mp Y) hv;obtain⟨zv,I,Z⟩:=MQ hz;have E:∀w',Agree S H w w'->w'.heap[g]?=some (.map (List.toArray ms) ms.length):=fun w' F=>(F.own j r hj g (by rw[h1];rfl)).trans h2
     rcases X with⟨rfl,X⟩|⟨i,m,cs,rfl,q1,q2,q3,q4,q5,q6,q7⟩
     ·cases ok with
      | false=>refine⟨zv,Z S w,fun w' F=>?_⟩;simp[Instr.lookup,run_underlying T,h1,MapKept.run_getObj_map (E w' F),O,X,I]
      | true=>
       refine⟨.tuple #[zv,.bool false],?_,fun w' F=>?_⟩
       ·simp_all[OS,rep,bO]
       ·simp[Instr.lookup,run_underlying T,h1,MapKept.run_getObj_map (E w' F),O,X,I]
     ·obtain⟨xk,xv,rfl,r1,r2⟩:=Ko q7;have e1:(r.es.getD i []).getD 1 .any=xv:=by grind
      cases ok with
      | false=>refine⟨m.val,by grind[OS],fun w' F=>?_⟩;simp[Instr.lookup,run_underlying T,h1,MapKept.run_getObj_map (E w' F),O,q3]
      | true=>
       refine⟨.tuple #[m.val,.bool true],?_,fun w' F=>?_⟩
       ·simp_all[OS,rep,bO]
       ·simp[Instr.lookup,run_underlying T,h1,MapKept.run_getObj_map (E w' F),O,q3]
    grind
   grind
  grind
 grind
end
end Go.Aw
end
section
namespace Go.Aw
open Go.RowKit
section
variable{P:Program}{S:Sg}{H:aG}{w:World}{G:Option Bool}{K:AV->Prop}
def oP(P:Program)(S:Sg)(H:aG)(w:World)(a:Act)(op:Op)(z:AV):Prop:=
 ∃v,rep S w z v/\∀w',Agree S H w w'->∀o:Oper,o.op=op->(execOp a.eval o).run P w'=.ok (.value v) w'
theorem oP.of_does{a:Act}{op:Op}{z:AV}{s:Sem Value}(F:AX P S H w z s)(O:∀o:Oper,o.op=op->execOp a.eval o=(do pure (Next.value (<-s)):Sem Next)):oP P S H w a op z:=by obtain⟨v,E,I⟩:=F;exact⟨v,E,fun w' J o T=>by simp_all⟩
def qC{G:Option Bool}{ρ:Env}{a:Act}(I:FR S w ρ a):∀(l:List Operand) {K:List AV->Prop},(∀x∈l,opB a.tmps.size x=true)->De G ρ l K ->
  ∃E,K E/\(gt G->bO S w E (l.map a.eval))
 | [],K,_,h=>⟨[],h,fun _=>by rfl⟩
 | x::rest,K,hb,h=>by
  simp only[De]at h;obtain⟨y,h,X⟩:=bB (S:=S) (w:=w) h;obtain⟨E,F,J⟩:=qC I rest (fun x O=>hb x (by grind)) h;refine⟨_,F,fun T=>?_⟩;simp only[List.map_cons,bO]
  grind[dN]
def G9{ρ:Env}{a:Act}{op:Op}(hb:∀x∈op.operands,opB a.tmps.size x=true)(hF:FR S w ρ a)(hH:BG S w H)(h:jG P G ρ H op K):
  ∃z,K z/\(gt G->oP P S H w a op z):=by
 have ev:=fun x I=>dN hF (hb x I)
 cases op <;> simp only[jG]at h <;> simp only[Op.operands]at ev hb <;> try exact h.elim
 case move x=>obtain⟨z,F,T⟩:=bB (S:=S) (w:=w) h;exact⟨z,F,fun E=>⟨_,T E _ (ev x (by simp)),fun w' _ o J=>by simp[execOp,J]⟩⟩
 case assign x=>obtain⟨z,F,T⟩:=bB (S:=S) (w:=w) h;exact⟨z,F,fun E=>⟨_,T E _ (ev x (by simp)),fun w' _ o J=>by simp[execOp,J]⟩⟩
 case pick c x y=>
  obtain⟨zc,h,hc⟩:=bB (S:=S) (w:=w) h;split at h
  ·rename_i b;obtain⟨z,F,T⟩:=Qi (S:=S) (w:=w) h;refine⟨z,F,fun E=>?_⟩;have e:=afD (hc E _ (ev c (by simp)));refine⟨_,T E _ _ (ev x (by simp)) (ev y (by simp)),fun w' _ o J=>?_⟩;simp_all[execOp,asBool]
  grind
 case build t parts=>
  obtain⟨ps,h,ac⟩:=qV hF parts.toList (fun p hp=>hb p.2 (by grind)) h;unfold Bk at h;split at h
  ·rename_i z pl F ag;split at h
   ·rename_i cs aj;refine⟨_,h,fun E=>?_⟩;obtain⟨e1,e2⟩:=ac E;obtain⟨A',f1,f2,f3⟩:=NV (S:=S) (w:=w) F ag aj e1 e2;refine⟨.agg A',by grind[rep],fun w' _ o J=>?_⟩;simp_all[execOp,run_build]
   grind
  grind
 case load t x=>
  split at h
  ·rename_i l hl;obtain⟨y,h,T⟩:=bB (S:=S) (w:=w) h
   grind[GK,oP.of_does,execOp]
  grind
 case nilCheck x=>
  obtain⟨y,h,T⟩:=bB (S:=S) (w:=w) h;split at h
  ·refine⟨_,h,fun E=>?_⟩;have e:=T E _ (ev x (by simp));refine⟨_,e,fun w' _ o J=>?_⟩;simp only[rep]at e;obtain⟨b,p,e,_⟩:=e;simp_all[execOp]
  ·refine⟨_,h,fun E=>?_⟩;have e:=T E _ (ev x (by simp));refine⟨_,e,fun w' _ o J=>?_⟩;simp only[rep]at e;obtain⟨_,b,p,c,_,e⟩:=e;simp_all[execOp]
  all_goals grind
 case binOp op t x y t'=>
  split at h
  ·rename_i am;have T:y=.const (.slice none 0 0):=by grind[wA]
   subst T;obtain⟨Y,h,I⟩:=bB (S:=S) (w:=w) h;obtain⟨ah,h⟩:=h;obtain⟨e,ai⟩:=BU ah;have ak:∀(b:Bool) (Z:Option Addr) (n c:Nat),a.eval x=.slice Z n c->(op=.eql/\b=Z.isNone\/op=.neq/\b= !Z.isNone)->oP P S H w a (.binOp op t x (.const (.slice none 0 0)) t') (.v (.bool b)):=by
    intro b Z n c I hb;refine⟨.bool b,by rfl,fun w' _ o J=>?_⟩;have ec:a.eval (.const (.slice none 0 0))=.slice none 0 0:=rfl;simp only[execOp,J,I,ec];have E:(eqGuard op t x (.const (.slice none 0 0)) (.slice Z n c) (.slice none 0 0)).run P w'=.ok () w':=iV op t x _ _ _ (by simp) (by simp) w';have he:(Op.equal t (.slice Z n c) (.slice none 0 0)).run P w'=.ok Z.isNone w':=by have e0:Op.equal t (.slice Z n c) (.slice none 0 0)=Op.equalIn (9999+1) t (.slice Z n c) (.slice none 0 0):=rfl;rw[e0];unfold Op.equalIn;cases Z <;> simp[run_underlying ai]
    rcases hb with⟨rfl,rfl⟩|⟨rfl,rfl⟩
    all_goals simp_all[binOp]
   by_cases E:gt G
   ·have ex:=I E _ (ev x (by simp));unfold uH at h
    grind[rep]
   ·unfold uH at h
    grind
  obtain⟨Y,h,I⟩:=bB (S:=S) (w:=w) h;obtain⟨y',h,T⟩:=bB (S:=S) (w:=w) h;obtain⟨z,F,O⟩:=VU (S:=S) (H:=H) (w:=w) h;exact⟨z,F,fun E=>oP.of_does (O E _ _ (I E _ (ev x (by simp))) (T E _ (ev y (by simp))) x y) (fun o J=>by grind[execOp])⟩
 case unOp op t x=>
  obtain⟨Y,h,I⟩:=bB (S:=S) (w:=w) h;obtain⟨z,F,O⟩:=Y6 (P:=P) (S:=S) (H:=H) (w:=w) h
  grind[oP.of_does,execOp]
 case convert src dst x=>
  obtain⟨Y,h,I⟩:=bB (S:=S) (w:=w) h;obtain⟨z,F,O⟩:=SJ (S:=S) (H:=H) (w:=w) h
  grind[oP.of_does,execOp]
 case slice t x lo X m=>
  cases m with
  | some m=>
   cases lo with
   | some lo=>grind
   | none=>
    cases X with
    | none=>grind
    | some X=>simp only at h;obtain⟨Y,h,I⟩:=bB (S:=S) (w:=w) h;obtain⟨ab,h,aa⟩:=bB (S:=S) (w:=w) h;obtain⟨m',h,hm⟩:=bB (S:=S) (w:=w) h;obtain⟨z,F,O⟩:=G6 (S:=S) (w:=w) (H:=H) h;exact⟨z,F,fun E=>oP.of_does (O E _ _ _ (I E _ (ev x (by simp))) (aa E _ (ev X (by simp))) (hm E _ (ev m (by simp)))) (fun o J=>by grind[execOp])⟩
  | none=>
   simp only at h;obtain⟨Y,h,I⟩:=bB (S:=S) (w:=w) h;cases lo with
   | some lo=>
    cases X with
    | some X=>
     obtain⟨ae,h,af⟩:=bB (S:=S) (w:=w) h;obtain⟨ab,h,aa⟩:=bB (S:=S) (w:=w) h;obtain⟨z,F,O⟩:=vA hH h;refine⟨z,F,fun E=>oP.of_does (O E _ (some (a.eval lo)) (some (a.eval X)) (I E _ (ev x (by simp))) ?_ (by simp) ?_ (by simp)) (fun o J=>by grind[execOp])⟩
     all_goals grind
    | none=>
     obtain⟨ae,h,af⟩:=bB (S:=S) (w:=w) h;obtain⟨z,F,O⟩:=vA hH h;refine⟨z,F,fun E=>oP.of_does (O E _ (some (a.eval lo)) none (I E _ (ev x (by simp))) ?_ (by simp) (by simp) (by simp)) (fun o J=>by grind[execOp])⟩
     grind
   | none=>
    cases X with
    | some X=>
     obtain⟨ab,h,aa⟩:=bB (S:=S) (w:=w) h;obtain⟨z,F,O⟩:=vA hH h;refine⟨z,F,fun E=>oP.of_does (O E _ none (some (a.eval X)) (I E _ (ev x (by simp))) (by simp) (by simp) ?_ (by simp)) (fun o J=>by grind[execOp])⟩
     grind
    | none=>grind
 case fieldAddr t x f=>
  obtain⟨Y,h,I⟩:=bB (S:=S) (w:=w) h;obtain⟨z,F,O⟩:=FE (G:=G) (S:=S) (H:=H) (w:=w) h
  grind[oP.of_does,execOp]
 case field t x f=>
  split at h
  ·rename_i o l J;obtain⟨Y,h,I⟩:=bB (S:=S) (w:=w) h;obtain⟨fs,fd,i,hu,hf,rfl,X,_,hl⟩:=Df J;obtain⟨z,F,O⟩:=Hh (S:=S) (H:=H) (w:=w) hl h;refine⟨z,F,fun E=>?_⟩;obtain⟨cs,e,O⟩:=O E _ (I E _ (ev x (by simp)));refine oP.of_does (s:=Instr.field t (.agg cs) f) ?_ (fun o J=>by grind[execOp]);obtain⟨v,hv,hr⟩:=O;refine⟨v,hv,fun w' ha=>?_⟩;simp_all[Instr.field,run_underlying,asAgg]
  grind
 case indexAddr t x i=>
  obtain⟨Y,h,I⟩:=bB (S:=S) (w:=w) h;obtain⟨i',h,X⟩:=bB (S:=S) (w:=w) h
  grind[Fu,oP.of_does,execOp]
 case index t x i=>
  obtain⟨Y,h,I⟩:=bB (S:=S) (w:=w) h;obtain⟨i',h,X⟩:=bB (S:=S) (w:=w) h;obtain⟨z,F,O⟩:=NJ (S:=S) (H:=H) (w:=w) h
  grind[oP.of_does,execOp]
 case extract x i=>
  obtain⟨Y,h,I⟩:=bB (S:=S) (w:=w) h;split at h
  ·rename_i vs;refine⟨_,h.2,fun E=>?_⟩;have e:=I E _ (ev x (by simp));simp only[rep]at e;obtain⟨l,e,hl⟩:=e;obtain⟨u,h1,h2⟩:=D6 vs l i hl (h.1 E);exact⟨u,h2,fun w' _ o J=>by simp_all[execOp,Instr.extract]⟩
  grind
 case lookup t x i ok=>
  obtain⟨Y,h,I⟩:=bB (S:=S) (w:=w) h;obtain⟨i',h,X⟩:=bB (S:=S) (w:=w) h;obtain⟨z,F,O⟩:=Li (G:=G) hH h
  grind[oP.of_does,execOp]
 case makeFunc f first cap=>
  cases f <;> simp only at h <;> try exact h.elim
  rename_i f;obtain⟨hf,h⟩:=h;subst hf;obtain⟨ys,F,al⟩:=qC hF cap.toList (fun x I=>hb x (by grind)) h;refine⟨_,F,fun E=>⟨.func (.func f) #[] (cap.map a.eval),?_,fun w' _ o J=>by simp[execOp,J,Instr.makeFunc]⟩⟩
  grind[rep,Array.toList_map]
def EC{H':aG}{ρ:Env}{a:Act}{t:TypeId}{x:Operand}{lo F m:Option Operand}(hb:∀y∈(Op.slice t x lo F m).operands,opB a.tmps.size y=true)(hF:FR S w ρ a)(hH:BG S w H)(h:jG P G ρ H (.slice t x lo F m) K):
  ∃z,K z/\(gt G->oP P S H' w a (.slice t x lo F m) z):=by
 have ev:=fun x J=>dN hF (hb x J)
 simp only[jG]at h;simp only[Op.operands]at ev hb;cases m with
 | some m=>
  cases lo with
  | some lo=>grind
  | none=>
   cases F with
   | none=>grind
   | some F=>simp only at h;obtain⟨x',h,J⟩:=bB (S:=S) (w:=w) h;obtain⟨X,h,T⟩:=bB (S:=S) (w:=w) h;obtain⟨m',h,hm⟩:=bB (S:=S) (w:=w) h;obtain⟨z,I,O⟩:=G6 (S:=S) (w:=w) (H:=H') h;exact⟨z,I,fun E=>oP.of_does (O E _ _ _ (J E _ (ev x (by simp))) (T E _ (ev F (by simp))) (hm E _ (ev m (by simp)))) (fun o ho=>by grind[execOp])⟩
 | none=>
  simp only at h;obtain⟨x',h,J⟩:=bB (S:=S) (w:=w) h;cases lo with
  | some lo=>
   cases F with
   | some F=>
    obtain⟨Y,h,Z⟩:=bB (S:=S) (w:=w) h;obtain⟨X,h,T⟩:=bB (S:=S) (w:=w) h;obtain⟨z,I,O⟩:=vA hH h;refine⟨z,I,fun E=>oP.of_does (O E _ (some (a.eval lo)) (some (a.eval F)) (J E _ (ev x (by simp))) ?_ (by simp) ?_ (by simp)) (fun o ho=>by grind[execOp])⟩
    all_goals grind
   | none=>
    obtain⟨Y,h,Z⟩:=bB (S:=S) (w:=w) h;obtain⟨z,I,O⟩:=vA hH h;refine⟨z,I,fun E=>oP.of_does (O E _ (some (a.eval lo)) none (J E _ (ev x (by simp))) ?_ (by simp) (by simp) (by simp)) (fun o ho=>by grind[execOp])⟩
    grind
  | none=>
   cases F with
   | some F=>
    obtain⟨X,h,T⟩:=bB (S:=S) (w:=w) h;obtain⟨z,I,O⟩:=vA hH h;refine⟨z,I,fun E=>oP.of_does (O E _ none (some (a.eval F)) (J E _ (ev x (by simp))) (by simp) (by simp) ?_ (by simp)) (fun o ho=>by grind[execOp])⟩
    grind
   | none=>grind
end
end Go.Aw
end
section
namespace Go.Aw
def adF:Array Value:=(Go.Lib.pow10Tab.map fun z=>Value.int .u64 z).toArray
def WF:Array Value:=(Go.Lib.deBruijn64tab.map fun z:Nat=>Value.int .u8 (z:Int)).toArray
def aaH:List (Nat×Array Value):=[(1,adF),(3,WF)]
end Go.Aw
end
section
namespace Go.Aw
open Go.RowKit
def vO(w:World)(g:Nat):Option (Array Value):=match w.heap[g]? with
 | some (.cells cs _ _)=>some cs
 | _=>none
def O7(S:Sg)(w:World):Prop:=∀t∈aaH,S.ro t.1/\vO w t.1=some t.2
def O7.keep{S S':Sg}{w w':World}(h:O7 S w)(E:S.le S')(I:iL S w w'):O7 S' w':=fun t F=>⟨E.ro _ (h t F).1,by unfold vO;rw[I t.1 (h t F).1];exact(h t F).2⟩
structure St(S:Sg)(w:World)(H:aG):Prop where
 ro_fz:∀k,S.ro k->S.fz k
 fz_lt:∀k,S.fz k->k<w.heap.size
 rows:BG S w H
 free:∀k r,H k=some r->∀g,blk (S.loc k)=some g->¬S.fz g
 disj:∀k k' r r',H k=some r->H k'=some r'->k≠k'->∀g,blk (S.loc k)=some g->blk (S.loc k')≠some g
 tabs:O7 S w
structure Grow(S:Sg)(w:World)(S':Sg)(w':World):Prop where
 le:S.le S'
 fz:∀k,S.fz k->S'.fz k
 os:w'.os=w.os
 tape:w'.tape=w.tape
 output:w'.output=w.output
 size:w.heap.size<=w'.heap.size
 same:∀k,S.fz k->w'.heap[k]?=w.heap[k]?
 newro:∀k,S'.ro k->S.ro k\/¬S.fz k
theorem Grow.refl(S:Sg)(w:World):Grow S w S w:=⟨S.le_refl,fun _ h=>h,rfl,rfl,rfl,Nat.le_refl _,fun _ _=>rfl,fun _ h=>.inl h⟩
def Grow.trans{S S' J:Sg}{w w' I:World}(h:Grow S w S' w')(E:Grow S' w' J I):Grow S w J I:=
 ⟨Sg.le_trans h.le E.le,fun k F=>E.fz k (h.fz k F),E.os.trans h.os,E.tape.trans h.tape,E.output.trans h.output,Nat.le_trans h.size E.size,
  fun k F=>(E.same k (h.fz k F)).trans (h.same k F),
  fun k F=>by rcases E.newro k F with h1|h1;exact h.newro k h1;exact .inr fun O=>h1 (h.fz k O)⟩
def gY(N:Nat)(H H':aG):Prop:=∀k,k<N->H k=none->H' k=none
theorem gY.refl(N:Nat)(H:aG):gY N H H:=fun _ _ h=>h
def gY.trans{N F:Nat}{H H' E:aG}(h:gY N H H')(J:gY F H' E)(O:N<=F):gY N H E:=fun k I h0=>J k (Nat.lt_of_lt_of_le I O) (h k I h0)
section
variable{S S':Sg}{w w':World}{H H':aG}
def St.kept(I:St S w H)(E:∀k,S.fz k->w'.heap[k]?=w.heap[k]?):iL S w w':=fun k F=>E k (I.ro_fz k F)
def Grow.kept(E:St S w H)(F:Grow S w S' w'):iL S w w':=E.kept F.same
def St.fresh(E:St S w H):H S.N=none:=by
 cases h:H S.N with
 | none=>rfl
 | some r=>exact absurd (E.rows _ r h).lt (Nat.lt_irrefl _)
def RowOK.block_lt{k:Nat}{r:Row}(h:RowOK S w k r){g:Nat}(E:blk (S.loc k)=some g):g<w.heap.size:=by
 rcases h.own with⟨xs,F,_⟩|⟨J,ms,h1,I,_⟩
 ·refine(F.lt g ?_).2;rcases F.2 with⟨hv,_⟩|⟨_,_,_,hv,_⟩ <;> (rw[hv]at E |-;exact E)
 ·rw[h1]at E;injection E with E
  grind
def F8(E:S.le S')(F:iL S w w'):∀(i:Nat) (es:List (List AV)) (ms:List MapEntry),oC S w i es ms->oC S' w' i es ms
 | _,[],_,h=>h
 | i,cs::r,ms,h=>by simp only[oC]at h |-;obtain⟨m,t,rfl,h1,J,I⟩:=h;exact⟨m,t,rfl,h1,eU E F _ _ J,F8 E F (i+1) r t I⟩
def RowOK.keep{k:Nat}{r:Row}(h:RowOK S w k r)(E:S.le S')(I:iL S w w')(O:∀g,blk (S.loc k)=some g->w'.heap[g]?=w.heap[g]?):RowOK S' w' k r:=by
 refine⟨Nat.lt_of_lt_of_le h.lt E.N,by rw[E.sz k h.lt];exact h.sz,h.pos,h.len,?_⟩;rcases h.own with⟨xs,J,Z,h1⟩|⟨g,ms,h1,X,F⟩
 ·refine .inl ?_;unfold OM;rw[E.loc k h.lt];refine⟨xs,⟨J.1,?_⟩,eU E I _ _ Z,h1⟩;rcases J.2 with X|⟨g,cap,cur,T,F,h4,Y⟩
  ·grind
  ·exact .inr ⟨g,cap,cur,T,F,by rw[O g (by rw[T];rfl)];exact h4,Y⟩
 ·refine .inr ⟨g,ms,?_,?_,F8 E I 0 _ _ F.1,F.2⟩
  ·rw[E.loc k h.lt];exact h1
  ·rw[O g (by rw[h1];rfl)];exact X
def FR.keep{ρ:Env}{a:Act}(h:FR S w ρ a)(E:S.le S')(I:iL S w w'):FR S' w' ρ a:=fun t F=>nV E I _ _ (h t F)
def FR.put{ρ:Env}{a:Act}(h:FR S w ρ a){d:Option Nat}{z:AV}{v:Value}(J:rep S w z v):FR S w (upd ρ d z) (a.put d v):=by
 intro t F;cases d with
 | none=>exact h t F
 | some d=>
  simp only[Act.put,upd]at F |-;have E:t<a.tmps.size:=by grind
  by_cases e:t=d
  ·simp_all
  ·have h1:=h t E;have I:d≠t:=fun h=>e h.symm
   simp only[if_neg e];have:(a.tmps.setIfInBounds d v).getD t undef=a.tmps.getD t undef:=by simp[Array.getD_eq_getD_getElem?,I]
   rw[this];exact h1
def Sg.addRow(S:Sg)(v:Value)(sz:Nat):Sg:={ S with loc:=fun k=>if k=S.N then v else S.loc k,sz:=fun k=>if k=S.N then sz else S.sz k,N:=S.N+1 }
def Sg.le_addRow(S:Sg)(v:Value)(sz:Nat):S.le (S.addRow v sz):=
 ⟨fun _ h=>h,Nat.le_succ _,fun k E=>by grind[Sg.addRow],fun k E=>by grind[Sg.addRow]⟩
def mU{k:Nat}{r:Option Row}:aM H k r k=r:=aB H k r
def St.newRow(J:St S w H){e:TypeId}{sz cap:Nat}{es:List (List AV)}{xs:List Value}{cur:Array Value}(ae:0<sz)(ag:∀cs∈es,cs.length=sz)
  (hr:bO S w es.flatten xs) (h1:∀u∈xs,u.oneCell'=true) (hn:es.length<=cap) (ak:cap<=maxLen) (ah:cur.size=cap*sz) (ac:cur.toList.take (es.length*sz)=xs) {w':World}
  (hw:w'.heap=w.heap.push (.cells cur e)) (am:w'.os=w.os) (ad:w'.tape=w.tape) (al:w'.output=w.output):
  St (S.addRow (.slice (some ⟨w.heap.size,0,none⟩) es.length cap) sz) w' (aM H S.N (some ⟨e,sz,es⟩))/\Grow S w (S.addRow (.slice (some ⟨w.heap.size,0,none⟩) es.length cap) sz) w':=by
 have T:∀k,k<w.heap.size->w'.heap[k]?=w.heap[k]?:=fun k F=>by grind
 have aj:w'.heap[w.heap.size]?=some (.cells cur e (0,0)):=by grind
 have an:w'.heap.size=w.heap.size+1:=by grind
 have ab:=S.le_addRow (.slice (some ⟨w.heap.size,0,none⟩) es.length cap) sz;have X:iL S w w':=fun k F=>T k (J.fz_lt k (J.ro_fz k F))
 have E:(S.addRow (.slice (some ⟨w.heap.size,0,none⟩) es.length cap) sz).loc S.N=.slice (some ⟨w.heap.size,0,none⟩) es.length cap:=by simp[Sg.addRow]
 have Z:∀k,k<S.N->(S.addRow (.slice (some ⟨w.heap.size,0,none⟩) es.length cap) sz).loc k=S.loc k:=ab.loc;have O:∀k r,k≠S.N->aM H S.N (some ⟨e,sz,es⟩) k=some r->H k=some r:=fun k r F h=>by grind[aJ]
 refine⟨⟨J.ro_fz,fun k F=>by have:=J.fz_lt k F;omega,?_,?_,?_,J.tabs.keep ab X⟩,⟨ab,fun _ h=>h,am,ad,al,by omega,fun k F=>T k (J.fz_lt k F),fun _ h=>.inl h⟩⟩
 ·intro k r F;by_cases e0:k=S.N
  ·subst e0;rw[mU]at F;injection F with F;subst F;refine⟨Nat.lt_succ_self _,by simp[Sg.addRow],ae,ag,.inl ⟨xs,⟨?_,.inr ⟨w.heap.size,cap,cur,E,Nat.zero_le _,aj,hn,ak,ah,ac⟩⟩,eU ab X _ _ hr,h1⟩⟩
   grind[jB,qP]
  ·have I:=O k r e0 F;exact(J.rows k r I).keep ab X fun g hg=>T g ((J.rows k r I).block_lt hg)
 ·intro k r F g hg;by_cases e0:k=S.N
  ·subst e0;rw[E]at hg;simp only[blk,Option.some.injEq]at hg;subst hg;exact fun h=>Nat.lt_irrefl _ (J.fz_lt _ h)
  ·have I:=O k r e0 F;rw[Z k (J.rows k r I).lt]at hg;exact J.free k r I g hg
 ·intro k k' r r' F I af g hg Y;by_cases e0:k=S.N
  ·subst e0;rw[E]at hg;simp only[blk,Option.some.injEq]at hg;subst hg;have aa:=O k' r' (Ne.symm af) I;rw[Z k' (J.rows k' r' aa).lt]at Y;exact Nat.lt_irrefl _ ((J.rows k' r' aa).block_lt Y)
  ·have aa:=O k r e0 F;rw[Z k (J.rows k r aa).lt]at hg;by_cases e1:k'=S.N
   ·subst e1;rw[E]at Y;simp only[blk,Option.some.injEq]at Y;subst Y;exact Nat.lt_irrefl _ ((J.rows k r aa).block_lt hg)
   ·have ai:=O k' r' e1 I;rw[Z k' (J.rows k' r' ai).lt]at Y;exact J.disj k k' r r' aa ai af g hg Y
def St.newMap(J:St S w H){w':World}(hw:w'.heap=w.heap.push (.map #[] 0))(ah:w'.os=w.os)(ac:w'.tape=w.tape)(af:w'.output=w.output):
  St (S.addRow (.map (some w.heap.size)) 2) w' (aM H S.N (some ⟨0,2,[]⟩))/\Grow S w (S.addRow (.map (some w.heap.size)) 2) w':=by
 have X:∀k,k<w.heap.size->w'.heap[k]?=w.heap[k]?:=fun k F=>by grind
 have ae:w'.heap[w.heap.size]?=some (.map #[] 0):=by grind
 have ai:w'.heap.size=w.heap.size+1:=by grind
 have T:=S.le_addRow (.map (some w.heap.size)) 2;have ab:iL S w w':=fun k F=>X k (J.fz_lt k (J.ro_fz k F))
 have E:(S.addRow (.map (some w.heap.size)) 2).loc S.N=.map (some w.heap.size):=by simp[Sg.addRow]
 have O:∀k r,k≠S.N->aM H S.N (some ⟨0,2,[]⟩) k=some r->H k=some r:=fun k r F h=>by grind[aJ]
 refine⟨⟨J.ro_fz,fun k F=>by have:=J.fz_lt k F;omega,?_,?_,?_,J.tabs.keep T ab⟩,⟨T,fun _ h=>h,ah,ac,af,by omega,fun k F=>X k (J.fz_lt k F),fun _ h=>.inl h⟩⟩
 ·intro k r F;by_cases e0:k=S.N
  ·subst e0;rw[mU]at F;injection F with F;subst F;exact⟨Nat.lt_succ_self _,by simp[Sg.addRow],by simp,by simp,.inr ⟨w.heap.size,[],E,ae,by rfl,rfl⟩⟩
  ·have I:=O k r e0 F;exact(J.rows k r I).keep T ab fun g Z=>X g ((J.rows k r I).block_lt Z)
 ·intro k r F g Z;by_cases e0:k=S.N
  ·subst e0;rw[E]at Z;simp only[blk,Option.some.injEq]at Z;subst Z;exact fun h=>Nat.lt_irrefl _ (J.fz_lt _ h)
  ·have I:=O k r e0 F;rw[T.loc k (J.rows k r I).lt]at Z;exact J.free k r I g Z
 ·intro k k' r r' F I ag g Z Y;by_cases e0:k=S.N
  ·subst e0;rw[E]at Z;simp only[blk,Option.some.injEq]at Z;subst Z;have aa:=O k' r' (Ne.symm ag) I;rw[T.loc k' (J.rows k' r' aa).lt]at Y;exact Nat.lt_irrefl _ ((J.rows k' r' aa).block_lt Y)
  ·have aa:=O k r e0 F;rw[T.loc k (J.rows k r aa).lt]at Z;by_cases e1:k'=S.N
   ·subst e1;rw[E]at Y;simp only[blk,Option.some.injEq]at Y;subst Y;exact Nat.lt_irrefl _ ((J.rows k r aa).block_lt Z)
   ·have ad:=O k' r' e1 I;rw[T.loc k' (J.rows k' r' ad).lt]at Y;exact J.disj k k' r r' aa ad ag g Z Y
def St.setMap(O:St S w H){k g:Nat}{r:Row}(hk:H k=some r)(hl:S.loc k=.map (some g)){ms:List MapEntry}{es:List (List AV)}(he:oC S w 0 es ms)(h2:r.sz=2)(ah:g<w.heap.size):
  St S { w with heap:=w.heap.setIfInBounds g (.map ms.toArray ms.length) } (aM H k (some { r with es:=es }))/\Grow S w S { w with heap:=w.heap.setIfInBounds g (.map ms.toArray ms.length) }:=by
 have hR:=O.rows k r hk;have ad:¬S.fz g:=O.free k r hk g (by rw[hl];rfl);have F:∀j,j≠g->(w.heap.setIfInBounds g (.map ms.toArray ms.length))[j]?=w.heap[j]?:=fun j E=>by grind
 have ac:(w.heap.setIfInBounds g (.map ms.toArray ms.length))[g]?=some (.map ms.toArray ms.length):=by grind
 have I:iL S w { w with heap:=w.heap.setIfInBounds g (.map ms.toArray ms.length) }:=fun j E=>F j (fun e=>ad (e▸O.ro_fz j E))
 have p:∀j r',aM H k (some { r with es:=es }) j=some r'->∃X,H j=some X:=fun j r' E=>by grind[aJ]
 have ab:∀(i:Nat) (es:List (List AV)) (ms:List MapEntry),oC S w i es ms->∀cs∈es,cs.length=2:=by
  intro i es;induction es generalizing i with
  | nil=>simp
  | cons c es ih=>
   intro ms h cs T;simp only[oC]at h;obtain⟨m,t,rfl,_,h4,h5⟩:=h;rcases List.mem_cons.1 T with rfl|T
   ·have:=jB _ _ h4;grind
   grind
 refine⟨⟨O.ro_fz,fun j E=>by simpa using O.fz_lt j E,?_,?_,?_,O.tabs.keep S.le_refl I⟩,⟨S.le_refl,fun _ h=>h,rfl,rfl,rfl,by simp,fun j E=>F j (fun e=>ad (e▸E)),fun _ h=>.inl h⟩⟩
 ·intro j r' E;by_cases e:j=k
  ·subst e;rw[mU]at E;injection E with E;subst E;exact⟨hR.lt,hR.sz,hR.pos,fun cs T=>(ab 0 es ms he cs T).trans h2.symm,.inr ⟨g,ms,hl,ac,F8 S.le_refl I 0 _ _ he,h2⟩⟩
  ·rw[aJ _ _ _ _ e]at E;exact(O.rows j r' E).keep S.le_refl I fun Z J=>F Z (fun e'=>O.disj j k r' r E hk e Z J (by rw[hl,e'];rfl))
 ·intro j r' E Z J;obtain⟨X,Y⟩:=p j r' E;exact O.free j X Y Z J
 ·intro j j' r1 r2 E Y aa Z J ae;obtain⟨q1,ag⟩:=p j r1 E;obtain⟨q2,af⟩:=p j' r2 Y;exact O.disj j j' q1 q2 ag af aa Z J ae
def St.nilRow(O:St S w H)(e:TypeId){sz:Nat}(Y:0<sz):
  St (S.addRow (.slice none 0 0) sz) w (aM H S.N (some ⟨e,sz,[]⟩))/\Grow S w (S.addRow (.slice none 0 0) sz) w:=by
 have F:=S.le_addRow (.slice none 0 0) sz;have T:(S.addRow (.slice none 0 0) sz).loc S.N=.slice none 0 0:=by simp[Sg.addRow]
 have E:∀k r,k≠S.N->aM H S.N (some ⟨e,sz,[]⟩) k=some r->H k=some r:=fun k r J h=>by grind[aJ]
 refine⟨⟨O.ro_fz,O.fz_lt,?_,?_,?_,O.tabs.keep F (iL.refl S w)⟩,⟨F,fun _ h=>h,rfl,rfl,rfl,Nat.le_refl _,fun _ _=>rfl,fun _ h=>.inl h⟩⟩
 ·intro k r J;by_cases X:k=S.N
  ·subst X;rw[mU]at J;injection J with J;subst J;refine⟨Nat.lt_succ_self _,by simp[Sg.addRow],Y,by simp,.inl ⟨[],⟨by simp,.inl ⟨T,rfl⟩⟩,by rfl,by simp⟩⟩
  ·have I:=E k r X J;exact(O.rows k r I).keep F (iL.refl S w) fun _ _=>rfl
 ·intro k r J g hg;by_cases X:k=S.N
  ·grind[blk]
  ·have I:=E k r X J;rw[F.loc k (O.rows k r I).lt]at hg;exact O.free k r I g hg
 ·intro k k' r r' J I ac g hg ab;by_cases X:k=S.N
  ·grind[blk]
  ·have aa:=E k r X J;rw[F.loc k (O.rows k r aa).lt]at hg;by_cases e1:k'=S.N
   ·grind[blk]
   ·have Z:=E k' r' e1 I;rw[F.loc k' (O.rows k' r' Z).lt]at ab;exact O.disj k k' r r' aa Z ac g hg ab
def Sg.addRo(S:Sg)(g:Nat):Sg:={ S with ro:=fun k=>S.ro k\/k=g,fz:=fun k=>S.fz k\/k=g }
def Sg.le_addRo(S:Sg)(g:Nat):S.le (S.addRo g):=⟨fun _ h=>.inl h,Nat.le_refl _,fun _ _=>rfl,fun _ _=>rfl⟩
def St.newRo(I:St S w H){o:Obj}{w':World}(hw:w'.heap=w.heap.push o)(aa:w'.os=w.os)(T:w'.tape=w.tape)(Y:w'.output=w.output):
  St (S.addRo w.heap.size) w' H/\Grow S w (S.addRo w.heap.size) w':=by
 have F:∀k,k<w.heap.size->w'.heap[k]?=w.heap[k]?:=fun k E=>by grind
 have ab:w'.heap.size=w.heap.size+1:=by grind
 have O:=S.le_addRo w.heap.size;have J:iL S w w':=fun k E=>F k (I.fz_lt k (I.ro_fz k E))
 refine⟨⟨fun k E=>E.imp (I.ro_fz k) id,fun k E=>?_,fun k r E=>(I.rows k r E).keep O J fun g Z=>F g ((I.rows k r E).block_lt Z),fun k r E g Z X=>?_,I.disj,I.tabs.keep O J⟩,
  ⟨O,fun _ h=>.inl h,aa,T,Y,by omega,fun k E=>F k (I.fz_lt k E),fun k E=>E.imp id (fun e X=>by have:=I.fz_lt k X;omega)⟩⟩
 ·rcases E with E|E
  ·have:=I.fz_lt k E;omega
  ·omega
 ·rcases X with X|X
  ·exact I.free k r E g Z X
  ·have:=(I.rows k r E).block_lt Z;omega
def RowOK.open{k:Nat}{r:Row}(h:RowOK S w k r){E:Option Addr}{J T:Nat}(F:S.loc k=.slice E J T)(O:r.es≠[]):∃g cap cur,S.loc k=.slice (some ⟨g,0,none⟩) r.es.length cap/\w.heap[g]?=some (.cells cur r.e (0,0))/\r.es.length<=cap/\cap<=maxLen/\cur.size=cap*r.sz /\
  bO S w r.es.flatten (cur.toList.take (r.es.length*r.sz))/\∀u∈cur.toList.take (r.es.length*r.sz),u.oneCell'=true:=by
 obtain⟨xs,I,Z,h1⟩:=h.sl F;rcases I.2 with⟨_,hn⟩|⟨g,cap,cur,hv,_,h2,Y,h4,X,h6⟩
 all_goals grind
def Ce:∀(es:List (List AV)) (i:Nat) (cs:List AV) {sz:Nat},(∀c∈es,c.length=sz)->i<es.length->cs.length=sz ->
  (es.set i cs).flatten=es.flatten.take (i*sz)++cs++es.flatten.drop (i*sz+sz)
 | [],_,_,_,_,h,_=>by grind
 | x::r,0,cs,sz,hl,_,E=>by grind
 | x::r,i+1,cs,sz,hl,hi,E=>by
  have I:=hl x (by simp);have ih:=Ce r i cs (fun c E=>hl c (by simp[E])) (by simpa using hi) E;simp only[List.set_cons_succ,List.flatten_cons,ih];have F:(i+1)*sz=x.length+i*sz:=by rw[I,Nat.add_mul];omega
  rw[F,Nat.add_assoc,List.take_append,List.drop_append];simp[List.take_of_length_le,List.drop_eq_nil_of_le]
def St.store(O:St S w H){k:Nat}{r:Row}(hk:H k=some r){i f:Nat}{cs:List AV}{l:List Value}(hi:i<r.es.length)(hf:f+cs.length<=r.sz){al:Option Addr}{n0 c0:Nat}(ak:S.loc k=.slice al n0 c0)
   (hr:bO S w cs l) (h1:∀u∈l,u.oneCell'=true):
   ∃g n c w',S.loc k=.slice (some ⟨g,0,none⟩) n c/\(∀P:Program,(storeCells ⟨g,i*r.sz+f,none⟩ l).run P w=.ok () w') /\
     St S w' (aM H k (some { r with es:=r.es.set i (oN (r.es.getD i []) f cs) }))/\Grow S w S w':=by
 have X:=O.rows k r hk;have ah:r.es≠[]:=fun e=>by grind
 obtain⟨g,cap,cur,I,hg,ai,ao,ax,Z,av⟩:=X.open ak ah;have aw:=jB _ _ hr;have ad:(i+1)*r.sz<=r.es.length*r.sz:=Nat.mul_le_mul_right _ hi;have ar:r.es.length*r.sz<=cap*r.sz:=Nat.mul_le_mul_right _ ai;rw[Nat.add_mul,Nat.one_mul]at ad;have ac:∀P:Program,_:=fun P=>run_storeCells_at (P:=P) g (i*r.sz+f) r.e l 0 cur w hg (by omega) h1
 simp only[Nat.add_zero]at ac;refine⟨g,_,cap,_,I,ac,?_,?_⟩
 . have T:∀j,j≠g->(w.setRow g (List.take (i*r.sz+f) cur.toList++l++List.drop (i*r.sz+f+l.length) cur.toList).toArray).heap[j]?=w.heap[j]?:=fun j E=>setRow_other w g j _ E
   have ap:¬S.fz g:=O.free k r hk g (by rw[I];rfl);have F:iL S w (w.setRow g (List.take (i*r.sz+f) cur.toList++l++List.drop (i*r.sz+f+l.length) cur.toList).toArray):=fun j E=>T j (fun e=>ap (e▸O.ro_fz j E))
   have af:(r.es.getD i []).length=r.sz:=by simp only[List.getD,List.getElem?_eq_getElem hi,Option.getD_some];exact X.len _ (List.getElem_mem hi)
   have ae:(oN (r.es.getD i []) f cs).length=r.sz:=by grind[oN]
   have e2 : List.take (r.es.length * r.sz) (List.take (i * r.sz + f) cur.toList ++ l ++ List.drop (i * r.sz + f + l.length) cur.toList) =
       (cur.toList.take (r.es.length*r.sz)).take (i*r.sz+f)++l++(cur.toList.take (r.es.length*r.sz)).drop (i*r.sz+f+l.length):=by
     rw[List.take_take,Nat.min_eq_left (by omega),List.drop_take];rw[List.take_append,List.take_append];simp only[List.length_append,List.length_take,Array.length_toList];rw[Nat.min_eq_left (by omega:i*r.sz+f<=cur.size)]
     grind[List.take_of_length_le]
   refine⟨O.ro_fz,fun j E=>by simpa using O.fz_lt j E,?_,?_,?_,O.tabs.keep S.le_refl F⟩
   . intro j r' E;by_cases e:j=k
     . subst e;rw[mU]at E;injection E with E;subst E;refine⟨X.lt,X.sz,X.pos,?_,.inl ?_⟩
       . intro c hc;rcases List.mem_or_eq_of_mem_set hc with hc|rfl
         . exact X.len c hc
         omega
       . refine⟨(List.take (i*r.sz+f) cur.toList++l++List.drop (i*r.sz+f+l.length) cur.toList).take (r.es.length*r.sz),⟨?_,.inr ⟨g,cap,_,by grind,Nat.zero_le _,setRow_heap w g cur _ _ _ hg,by grind,ao,?_,by simp⟩⟩,?_,?_⟩
         . grind
         . simp_all;omega
         . have hx:=(eU (S.le_refl) F _ _ Z);have hy:=(eU (S.le_refl) F _ _ hr);have e1:(r.es.set i (oN (r.es.getD i []) f cs)).flatten=r.es.flatten.take (i*r.sz+f)++cs++r.es.flatten.drop (i*r.sz+f+l.length):=by
             rw[Ce r.es i _ X.len hi ae];have am:r.es.flatten.length=r.es.length*r.sz:=qP _ X.len;have aa:r.es.getD i []=(r.es.flatten.drop (i*r.sz)).take r.sz:=by
               have h0:=Ce r.es i (r.es.getD i []) X.len hi af;have hs:r.es.set i (r.es.getD i [])=r.es:=by simp_all
               rw[hs]at h0;have h3:(r.es.flatten.drop (i*r.sz)).take r.sz=((r.es.flatten.take (i*r.sz)++r.es.getD i []++r.es.flatten.drop (i*r.sz+r.sz)).drop (i*r.sz)).take r.sz:=by grind
               rw[h3,List.append_assoc,List.drop_append_of_le_length (by rw[List.length_take];omega)]
               grind
             rw[aa,oN];have a1:List.take (i*r.sz+f) r.es.flatten=r.es.flatten.take (i*r.sz)++((r.es.flatten.drop (i*r.sz)).take r.sz).take f:=by rw[List.take_take,Nat.min_eq_left (by omega),List.take_add]
             grind[List.drop_take,List.drop_drop,List.take_append_drop]
           grind[gG,vD,yO]
         grind
     . rw[aJ _ _ _ _ e]at E;exact(O.rows j r' E).keep S.le_refl F fun Y J=>T Y (fun e'=>O.disj j k r' r E hk e Y J (by rw[I,e'];rfl))
   . intro j r' E Y J;by_cases e:j=k
     . subst e;exact O.free j r hk Y J
     . rw[aJ _ _ _ _ e]at E;exact O.free j r' E Y J
   . intro j j' r1 r2 E aj ab Y J ag;have p:∀j r',aM H k (some { r with es:=r.es.set i (oN (r.es.getD i []) f cs) }) j=some r'->∃au,H j=some au:=fun j r' E=>by grind[aJ]
     obtain⟨q1,aq⟩:=p j r1 E;obtain⟨q2,an⟩:=p j' r2 aj;exact O.disj j j' q1 q2 aq an ab Y J ag
 . refine⟨S.le_refl,fun _ h=>h,rfl,rfl,rfl,by simp,fun j E=>setRow_other w g j _ (fun e=>O.free k r hk g (by rw[I];rfl) (e▸E)),fun _ h=>.inl h⟩
end
end Go.Aw
end
section
namespace Go.Aw
open Go.RowKit
section
variable{P:Program}{S S':Sg}{w w':World}{H H':aG}
def BE(S:Sg)(w:World)(u:Value)(news:List (List AV)):Prop:=
 ∃ad c l,u=.slice ad news.length c/\bO S w news.flatten l/\(∀x∈l,x.oneCell'=true) /\
   (news=[]\/∃b o,ad=some ⟨b,o,none⟩/\∀j x,l[j]?=some x->w.cell? ⟨b,o+j,none⟩=some x)
theorem Px{es:List (List AV)}{u:Value}(h:rep S w (.sl es) u):BE S w u es:=by
 simp only[rep]at h;obtain⟨I,n,c,rfl,rfl,_,_,J⟩:=h;rcases J with rfl|⟨b,o,sz,rfl,Y,Z,E⟩
 ·exact⟨I,c,[],rfl,by rfl,by simp,.inl rfl⟩
 ·obtain⟨l,X,T,O,F⟩:=oJ _ _ (Ak es o E);exact⟨_,c,l,rfl,T,O,.inr ⟨b,o,rfl,F⟩⟩
def O5{k:Nat}{r:Row}(h:RowOK S w k r){T:Option Addr}{X Z:Nat}(Y:S.loc k=.slice T X Z):BE S w (S.loc k) r.es:=by
 obtain⟨xs,E,I,h1⟩:=h.sl Y;rcases E.2 with⟨F,J⟩|⟨g,cap,cur,F,_⟩
 ·have he:=List.eq_nil_of_length_eq_zero J;have hx:xs=[]:=List.eq_nil_of_length_eq_zero (by rw[E.1,J];simp);exact⟨none,0,xs,by grind,I,h1,.inl he⟩
 ·refine⟨some ⟨g,0,none⟩,cap,xs,F,I,h1,.inr ⟨g,0,rfl,fun j x O=>?_⟩⟩;have:=E.cells (g:=g) (by rw[F];rfl) j x O
  grind[Addr.add_lit]
def Fv{k a b:Nat}{r:Row}{u:Value}(X:RowOK S w k r)(hu:rep S w (.oz k a b) u):BE S w u ((r.es.take b).drop a)/\b<=r.es.length/\a<=b:=by
 simp only[rep]at hu;obtain⟨_,ad,n,c,ac,cc,E,rfl,ab,Y,I,_⟩:=hu;obtain⟨xs,ho,hr,h1⟩:=X.sl E;have hn:n=r.es.length:=by
  rcases ho.2 with⟨hv,hn⟩|⟨g,cap,cur,hv,_⟩
  all_goals grind
 subst hn;refine⟨?_,Y,ab⟩;have F:((r.es.take b).drop a).length=b-a:=by grind
 rcases Nat.lt_or_ge a b with Z|ae
 ·obtain⟨g,rfl,rfl⟩:=I Z;have aa:r.es≠[]:=fun e=>by grind
  obtain⟨g',n',c',O,T,_⟩:=X.els E aa;rw[E]at O;injection O with J _ _;injection J with J;injection J with J;subst J;have h2:=Ds _ 0 a (Aq r.es 0 b T);rw[Nat.zero_add,X.sz]at h2;obtain⟨l,q1,q2,q3,q4⟩:=oJ _ _ (Ak _ _ h2);exact⟨_,cc,l,by rw[F],q2,q3,.inr ⟨g,a*S.sz k,rfl,q4⟩⟩
 ·have he:(r.es.take b).drop a=[]:=List.eq_nil_of_length_eq_zero (by omega);exact⟨ac,cc,[],by rw[F],by grind[bO],by simp,.inl he⟩
def AR:∀(es:List (List AV)) (a:Nat) {sz:Nat},(∀c∈es,c.length=sz)->(es.take a).flatten=es.flatten.take (a*sz)
 | [],_,_,_=>by simp
 | x::r,0,_,_=>by simp
 | x::r,a+1,sz,hl=>by simp_all[AR,Nat.add_mul,List.take_append,List.take_of_length_le]
def D8:∀(es:List (List AV)) (a:Nat) {sz:Nat},(∀c∈es,c.length=sz)->(es.drop a).flatten=es.flatten.drop (a*sz)
 | [],_,_,_=>by simp
 | x::r,0,_,_=>by simp
 | x::r,a+1,sz,hl=>by simp_all[D8,Nat.add_mul,List.drop_append]
def St.storeE(O:St S w H){k:Nat}{r:Row}(hk:H k=some r){a:Nat}{news:List (List AV)}{l:List Value}(au:∀c∈news,c.length=r.sz)(ha:a+news.length<=r.es.length)(ae:r.es≠[]){ah:Option Addr}{n0 c0:Nat}(aq:S.loc k=.slice ah n0 c0)
   (hr:bO S w news.flatten l) (h1:∀u∈l,u.oneCell'=true):
   ∃g n c w',S.loc k=.slice (some ⟨g,0,none⟩) n c/\(∀P:Program,(storeCells ⟨g,a*r.sz,none⟩ l).run P w=.ok () w') /\
     St S w' (aM H k (some { r with es:=r.es.take a++news++r.es.drop (a+news.length) }))/\Grow S w S w':=by
 have Y:=O.rows k r hk;obtain⟨g,cap,cur,I,hg,ai,ak,aw,aa,av⟩:=Y.open aq ae;have ar:l.length=news.length*r.sz:=by grind[jB,qP]
 have ad:(a+news.length)*r.sz<=r.es.length*r.sz:=Nat.mul_le_mul_right _ ha;have an:r.es.length*r.sz<=cap*r.sz:=Nat.mul_le_mul_right _ ai;rw[Nat.add_mul]at ad;have ac:∀P:Program,_:=fun P=>run_storeCells_at (P:=P) g (a*r.sz) r.e l 0 cur w hg (by omega) h1
 simp only[Nat.add_zero]at ac;refine⟨g,_,cap,_,I,ac,?_,?_⟩
 . have T:∀j,j≠g->(w.setRow g (List.take (a*r.sz) cur.toList++l++List.drop (a*r.sz+l.length) cur.toList).toArray).heap[j]?=w.heap[j]?:=fun j E=>setRow_other w g j _ E
   have al:¬S.fz g:=O.free k r hk g (by rw[I];rfl);have F:iL S w (w.setRow g (List.take (a*r.sz) cur.toList++l++List.drop (a*r.sz+l.length) cur.toList).toArray):=fun j E=>T j (fun e=>al (e▸O.ro_fz j E))
   have af:(r.es.take a++news++r.es.drop (a+news.length)).length=r.es.length:=by grind
   have e2 : List.take (r.es.length * r.sz) (List.take (a * r.sz) cur.toList ++ l ++ List.drop (a * r.sz + l.length) cur.toList) =
       (cur.toList.take (r.es.length*r.sz)).take (a*r.sz)++l++(cur.toList.take (r.es.length*r.sz)).drop (a*r.sz+l.length):=by
     rw[List.take_take,Nat.min_eq_left (by omega),List.drop_take];rw[List.take_append,List.take_append]
     grind[List.take_of_length_le]
   refine⟨O.ro_fz,fun j E=>by simpa using O.fz_lt j E,?_,?_,?_,O.tabs.keep S.le_refl F⟩
   . intro j r' E;by_cases e:j=k
     . subst e;rw[mU]at E;injection E with E;subst E;refine⟨Y.lt,Y.sz,Y.pos,?_,.inl ?_⟩
       . intro c X;rcases List.mem_append.1 X with X|X
         . rcases List.mem_append.1 X with X|X
           . exact Y.len c (List.mem_of_mem_take X)
           grind
         . exact Y.len c (List.mem_of_mem_drop X)
       . refine⟨(List.take (a*r.sz) cur.toList++l++List.drop (a*r.sz+l.length) cur.toList).take (r.es.length*r.sz),⟨?_,.inr ⟨g,cap,_,by grind,Nat.zero_le _,setRow_heap w g cur _ _ _ hg,by grind,ak,?_,by rw[af]⟩⟩,?_,?_⟩
         . grind
         . simp only[List.size_toArray,List.length_append,List.length_take,List.length_drop,Array.length_toList];omega
         . have hx:=(eU (S.le_refl) F _ _ aa);have hy:=(eU (S.le_refl) F _ _ hr);have e1:(r.es.take a++news++r.es.drop (a+news.length)).flatten=r.es.flatten.take (a*r.sz)++news.flatten++r.es.flatten.drop (a*r.sz+l.length):=by rw[List.flatten_append,List.flatten_append,AR _ _ Y.len,D8 _ _ Y.len,Nat.add_mul,ar]
           grind[gG,vD,yO]
         grind
     . rw[aJ _ _ _ _ e]at E;exact(O.rows j r' E).keep S.le_refl F fun Z J=>T Z (fun e'=>O.disj j k r' r E hk e Z J (by rw[I,e'];rfl))
   . intro j r' E Z J;by_cases e:j=k
     . subst e;exact O.free j r hk Z J
     . rw[aJ _ _ _ _ e]at E;exact O.free j r' E Z J
   . intro j j' r1 r2 E ap ab Z J ag;have p:∀j r',aM H k (some { r with es:=r.es.take a++news++r.es.drop (a+news.length) }) j=some r'->∃ao,H j=some ao:=fun j r' E=>by grind[aJ]
     obtain⟨q1,am⟩:=p j r1 E;obtain⟨q2,aj⟩:=p j' r2 ap;exact O.disj j j' q1 q2 am aj ab Z J ag
 . refine⟨S.le_refl,fun _ h=>h,rfl,rfl,rfl,by simp,fun j E=>setRow_other w g j _ (fun e=>O.free k r hk g (by rw[I];rfl) (e▸E)),fun _ h=>.inl h⟩
theorem Xq{k:Nat}{r:Row}(E:H k=some r):aM H k (some r)=H:=by grind[aB,aJ]
def St.copy(hS:St S w H){k:Nat}{r:Row}(hk:H k=some r){t e sz J:Nat}{t' ty:TypeId}(he:cN P t=some (e,sz,J))(ap:r.sz=sz){a n:Nat}(aq:a+n<=r.es.length){x u:Value}{news:List (List AV)}(hu:BE S w u news)(T:dM sz news)
  (hx:∃Z cc,x=.slice Z n cc/\(0<n->∃g n' c',S.loc k=.slice (some ⟨g,0,none⟩) n' c'/\Z=some ⟨g,a*r.sz,none⟩)):
  ∃w',(Builtin.copy_ #[t,t'] ty #[x,u]).run P w=.ok (goInt (min news.length n:Nat)) w'/\St S w' (aM H k (some { r with es:=r.es.take a++news.take (min news.length n)++r.es.drop (a+min news.length n) }))/\Grow S w S w':=by
 obtain⟨ax,z,ah,hi,al,an,ak,aj,hz,ar⟩:=jW he;obtain⟨Z,cc,rfl,ab⟩:=hx;obtain⟨sa,sc,l,rfl,hl,ai,F⟩:=hu;have O:=jV.1 T;rcases Nat.eq_zero_or_pos (min news.length n)with h0|h0
 ·refine⟨w,?_,?_,Grow.refl S w⟩
  ·have af:Nat.min news.length n=0:=h0;have ae:∀a:Addr,(loadCells a 0).run P w=.ok #[] w:=fun a=>by rfl
   rw[h0];cases Z <;> cases sa <;> simp[Builtin.copy_,run_underlying ah,Builtin.lenOf,Builtin.firstCells,sizeOf,typeInfo,hi,af,ae,storeCells]
  ·rw[h0];have:({ r with es:=r.es.take a++news.take 0++r.es.drop (a+0) }:Row)=r:=by simp
   grind[Xq]
 ·have ac:0<n:=by omega
  obtain⟨g,n',c',I,rfl⟩:=ab ac;have X:r.es≠[]:=fun e=>by grind
  have hm:(news.take (min news.length n)).length=min news.length n:=by simp
  have am:(news.take (min news.length n)).flatten=news.flatten.take (min news.length n*sz):=AR _ _ O;have ag:bO S w (news.take (min news.length n)).flatten (l.take (min news.length n*sz)):=by grind[vD]
  obtain⟨g',n2,c2,w',E,av,q1,q2⟩:=hS.storeE hk (a:=a) (news:=news.take (min news.length n)) (l:=l.take (min news.length n*sz)) (fun c hc=>by grind) (by omega) X I ag (fun u hu=>ai u (List.mem_of_mem_take hu));rw[I]at E;injection E with Y _ _;injection Y with Y;injection Y with Y;subst Y;rw[hm]at q1;refine⟨w',?_,q1,q2⟩;rcases F with F|⟨b,o,rfl,aa⟩
  ·grind
  ·have au:l.length=news.length*sz:=by grind[jB,qP]
   have aw:(l.take (min news.length n*sz)).length=min news.length n*sz:=by simp_all
   have ao:=run_loadCells_list (P:=P) w ⟨b,o,none⟩ (l.take (min news.length n*sz)) (fun j v hj=>by grind[Addr.add_lit]);simp_all[Builtin.copy_,run_underlying,Builtin.lenOf,Builtin.firstCells,sizeOf,typeInfo]
def Bp(z:Array Value)(E:0<z.size):∀m,(Builtin.zeroCells z m).toList=(List.replicate m z.toList).flatten
 | 0=>by simp[Builtin.zeroCells]
 | m+1=>by
  have ih:=Bp z E m;rw[show List.replicate (m+1) z.toList=List.replicate m z.toList++[z.toList]from List.replicate_succ',List.flatten_append,<-ih];simp only[Builtin.zeroCells,Array.toList_map,Array.toList_range,Nat.add_mul,Nat.one_mul,List.flatten_cons,List.flatten_nil,List.append_nil];rw[List.range_add,List.map_append]
  congr 1
  apply List.ext_getElem
  all_goals simp_all[Nat.mod_eq_of_lt]
def St.clear(hS:St S w H){k:Nat}{r:Row}(hk:H k=some r){t e sz O:Nat}{ty:TypeId}{zs:List AV}(he:cN P t=some (e,sz,O))(ae:eD P e=some zs)(am:r.sz=sz){a n:Nat}(an:a+n<=r.es.length){x:Value}
  (hx:∃Z cc,x=.slice Z n cc/\(0<n->∃g n' c',S.loc k=.slice (some ⟨g,0,none⟩) n' c'/\Z=some ⟨g,a*r.sz,none⟩)):
  ∃w',(Builtin.clear_ #[t] ty #[x]).run P w=.ok (.tuple #[]) w'/\St S w' (aM H k (some { r with es:=r.es.take a++List.replicate n zs++r.es.drop (a+n) }))/\Grow S w S w':=by
 obtain⟨ao,z,ab,hi,ah,al,af,ac,hz,ag⟩:=jW he;obtain⟨i',v,F,I,rfl,ai,ak,h1⟩:=pP ae;rw[hi]at F;injection F with F;subst F;rw[hz]at I;injection I with I;subst I;obtain⟨Z,cc,rfl,aa⟩:=hx;rcases Nat.eq_zero_or_pos n with h0|h0
 ·subst h0;refine⟨w,?_,?_,Grow.refl S w⟩
  ·cases Z <;> simp[Builtin.clear_,run_underlying ab]
  ·have:({ r with es:=r.es.take a++List.replicate 0 (z.cells.toList.map tR)++r.es.drop (a+0) }:Row)=r:=by simp
   grind[Xq]
 ·obtain⟨g,n',c',J,rfl⟩:=aa h0;have X:r.es≠[]:=fun e=>by grind
  have T:∀m,bO S w (List.replicate m (z.cells.toList.map tR)).flatten (List.replicate m z.cells.toList).flatten:=by intro m;induction m<;>grind[bO,gG,oA]
  obtain⟨g',n2,c2,w',E,aj,q1,q2⟩:=hS.storeE hk (a:=a) (news:=List.replicate n (z.cells.toList.map tR)) (l:=(List.replicate n z.cells.toList).flatten) (fun c hc=>by grind) (by grind) X J (T n) (fun u hu=>by simp_all;grind);rw[J]at E;injection E with Y _ _;injection Y with Y;injection Y with Y;subst Y;rw[List.length_replicate]at q1;refine⟨w',?_,q1,q2⟩;obtain⟨m,rfl⟩:∃m,n=m+1:=⟨n-1,by omega⟩;simp_all[Builtin.clear_,run_underlying,zeroValue,typeInfo,Bp]
theorem FG{t ty e:TypeId}{i:TypeInfo}{size n c:Nat}{v:Value}{xs:List Value}(I:P.underlying t=some (.slice e))(J:P.info? e=some i)(E:w.ownsRow 0 e size v n xs):
  (Builtin.append_ #[t,t] ty #[v,.slice none 0 c]).run P w=.ok v w:=by
 rcases E.2 with⟨rfl,rfl⟩|⟨g,cap,cur,rfl,_,_,F,_⟩
 ·simp[Builtin.append_,run_underlying I,sizeOf,typeInfo,J,Builtin.lenOf,Builtin.firstCells]
 ·simp[Builtin.append_,run_underlying I,sizeOf,typeInfo,J,Builtin.lenOf,Builtin.firstCells,F,storeCells]
def St.append(J:St S w H){k:Nat}{r:Row}(hk:H k=some r){aw:Option Addr}{n0 c0:Nat}(au:S.loc k=.slice aw n0 c0){t ty:TypeId}{T:Nat}(he:cN P t=some (r.e,r.sz,T)){news:List (List AV)}{u:Value}(hu:BE S w u news)
   (am:dM r.sz news) (hb:(r.es.length+news.length)*T<=140737488355328):
   ∃F w',(Builtin.append_ #[t,t] ty #[S.loc k,u]).run P w=.ok F w'/\(∃a n c,F=.slice a n c) /\
     St (S.addRow F r.sz) w' (aM (aM H k none) S.N (some ⟨r.e,r.sz,r.es++news⟩))/\Grow S w (S.addRow F r.sz) w':=by
 have hR:=J.rows k r hk;obtain⟨a0,z,ax,hi,ao,an,ag,ak,hz,aq⟩:=jW he;obtain⟨xs,ho,hr,h1⟩:=hR.sl au;obtain⟨ad,c,l,rfl,hl,ay,a4⟩:=hu;have ap:=jV.1 am;have av:l.length=news.length*r.sz:=by grind[jB,qP]
 have a5:r.es.length+news.length<=140737488355328:=Nat.le_trans (Nat.le_mul_of_pos_right _ ak) hb;have az : ∃ F w', (Builtin.append_ #[t, t] ty #[S.loc k, .slice ad news.length c]).run P w = .ok F w' /\ w'.ownsRow 0 r.e r.sz F (r.es.length + news.length) (xs ++ l) /\ w.grownBy w' (blk (S.loc k)) /\
     (blk F=blk (S.loc k)\/blk F=some w.heap.size):=by
   cases ad with
   | none=>
     have hn:news=[]:=by grind
     subst hn;have a7:l=[]:=List.eq_nil_of_length_eq_zero (by grind)
     grind[FG,World.grownBy.refl]
   | some a=>
     have ae:∀j x,l[j]?=some x->w.cell? (a.add j)=some x:=by grind[Addr.add_lit]
     obtain⟨F,w',q1,q2,q3,_,q5⟩:=run_append_own_at (P:=P) w 0 t ty r.e a0 z r.sz T ax hi hz ao an aq ag (S.loc k) r.es.length xs ho a news.length c l av ae ay
       (by grind[maxLen]) hb (Nat.zero_le _)
     have a6:blk (S.loc k)=(S.loc k).ownBlock:=by grind[asZ]
     have a9:blk F=F.ownBlock:=by rcases q2.2 with⟨h,_⟩|⟨_,_,_,h,_⟩ <;> (rw[h];rfl)
     grind
 obtain⟨F,w',q1,q2,q3,q4⟩:=az;have aj:=J.free k r hk;have ac:∀j,S.fz j->w'.heap[j]?=w.heap[j]?:=fun j I=>q3.block j (J.fz_lt j I) (fun e=>aj j e.symm I)
 have aa:iL S w w':=J.kept ac;have X:=S.le_addRow F r.sz;have ab:(S.addRow F r.sz).loc S.N=F:=by simp[Sg.addRow]
 have ar:∀g,blk F=some g->¬S.fz g:=fun g E hf=>by
   rcases q4 with e|e
   . grind
   . rw[e]at E;injection E with E;subst E;exact Nat.lt_irrefl _ (J.fz_lt _ hf)
 have O:∀j r',j≠S.N->aM (aM H k none) S.N (some ⟨r.e,r.sz,r.es++news⟩) j=some r'->j≠k/\H j=some r':=fun j r' I h=>by grind[aJ,aB]
 have ah:∀j r',j≠k->H j=some r'->∀g,blk (S.loc j)=some g->some g≠blk (S.loc k)/\g<w.heap.size:=fun j r' I Y g E=>⟨fun e=>J.disj j k r' r Y hk I g E e.symm,(J.rows j r' Y).block_lt E⟩
 have a8:∀j r',j≠k->H j=some r'->∀g,blk (S.loc j)=some g->blk F≠some g:=fun j r' I Y g E e=>by grind
 refine⟨F,w',q1,?_,⟨J.ro_fz,fun j I=>Nat.lt_of_lt_of_le (J.fz_lt j I) q3.size,?_,?_,?_,J.tabs.keep X aa⟩,⟨X,fun _ h=>h,q3.os,q3.tape,q3.output,q3.size,ac,fun _ h=>.inl h⟩⟩
 . rcases q2.2 with⟨h,_⟩|⟨g,cap,cur,h,_⟩
   all_goals grind
 . intro j r' I;by_cases e:j=S.N
   . subst e;rw[aB]at I;injection I with I;subst I;refine⟨Nat.lt_succ_self _,by simp[Sg.addRow],ag,?_,.inl ⟨xs++l,?_,?_,?_⟩⟩
     . intro cs af;rcases List.mem_append.1 af with af|af
       . exact hR.len cs af
       grind
     all_goals grind[gG,eU]
   . obtain⟨e1,Z⟩:=O j r' e I;exact(J.rows j r' Z).keep X aa fun g E=>q3.block g (ah j r' e1 Z g E).2 (ah j r' e1 Z g E).1
 . intro j r' I g E;by_cases e:j=S.N
   . subst e;rw[ab]at E;exact ar g E
   . obtain⟨e1,Z⟩:=O j r' e I;rw[X.loc j (J.rows j r' Z).lt]at E;exact J.free j r' Z g E
 . intro j j' r1 r2 I Y al g E ai;by_cases e:j=S.N
   . subst e;rw[ab]at E;obtain⟨e1,Z⟩:=O j' r2 (Ne.symm al) Y;rw[X.loc j' (J.rows j' r2 Z).lt]at ai
     grind
   . obtain⟨e1,Z⟩:=O j r1 e I;rw[X.loc j (J.rows j r1 Z).lt]at E;by_cases e':j'=S.N
     . grind
     . obtain⟨e3,e4⟩:=O j' r2 e' Y;rw[X.loc j' (J.rows j' r2 e4).lt]at ai;exact J.disj j j' r1 r2 Z e4 al g E ai
def Oj{es:List (List AV)}{I:Option Addr}{n:Nat}(h:rep S w (.cl es) (.slice I n n)){sz:Nat}(hl:dM sz es):
  ∃l,l.length=es.length*sz/\bO S w es.flatten l/\(∀x∈l,x.oneCell'=true)/\n=es.length/\n<=maxLen/\(es=[]\/∃b o,I=some ⟨b,o,none⟩/\∀j x,l[j]?=some x->w.cell? ⟨b,o+j,none⟩=some x):=by
 simp only[rep]at h;obtain⟨Y,n',e,rfl,hm,O⟩:=h;injection e with F J T;subst F J;rcases O with rfl|⟨b,o,X,rfl,hb,hs,E⟩
 ·simp[bO]
 ·obtain⟨l,F,J,T,Z⟩:=oJ _ _ (Ak es o E)
  grind[qP,jV]
def St.appendNew(X:St S w H){es:List (List AV)}{us:Value}(ax:rep S w (.cl es) us){t ty e:TypeId}{sz I:Nat}(he:cN P t=some (e,sz,I)){news:List (List AV)}{u:Value}(hu:BE S w u news)(a6:news≠[])
  (az:dM sz es) (ao:dM sz news) (hb:(es.length+news.length)*I<=140737488355328):
  ∃v' w',(Builtin.append_ #[t,t] ty #[us,u]).run P w=.ok v' w'/\(∃a n c,v'=.slice a n c) /\
   St (S.addRow v' sz) w' (aM H S.N (some ⟨e,sz,es++news⟩))/\Grow S w (S.addRow v' sz) w':=by
 obtain⟨a5,z,ay,hi,ar,ap,ag,am,hz,av⟩:=jW he;have ai:=ax;simp only[rep]at ai;obtain⟨aw,n0,rfl,_⟩:=ai;obtain⟨l0,an,a8,a9,rfl,be,bd⟩:=Oj ax az;obtain⟨ad,c,l,rfl,hl,a4,bb⟩:=hu;have ak:=jV.1 ao;have au:=jV.1 az;have al:l.length=news.length*sz:=by grind[jB,qP]
 have bf:0<news.length:=List.length_pos_iff.2 a6;have bc:es.length+news.length<=140737488355328:=Nat.le_trans (Nat.le_mul_of_pos_right _ am) hb;obtain⟨b,o,rfl,hcell⟩:∃b o,ad=some ⟨b,o,none⟩/\∀j x,l[j]?=some x->w.cell? ⟨b,o+j,none⟩=some x:=by grind
 have ae:∀j x,l[j]?=some x->w.cell? ((⟨b,o,none⟩:Addr).add j)=some x:=fun j x hj=>by grind[Addr.add_lit]
 have ba:∃v' w',(Builtin.append_ #[t,t] ty #[.slice aw es.length es.length,.slice (some ⟨b,o,none⟩) news.length c]).run P w=.ok v' w'/\w'.ownsRow w.heap.size e sz v' (es.length+news.length) (l0++l)/\w.grownBy w' none:=by
  cases aw with
  | none=>
   have a7:es=[]:=by grind
   subst a7;obtain rfl:l0=[]:=List.eq_nil_of_length_eq_zero (by grind);obtain⟨v',w',q1,q2,q3,_⟩:=run_append_own (P:=P) w w.heap.size t ty e a5 z sz I ay hi hz ar ap av ag (.slice none 0 0) 0 [] (World.ownsRow_nil w _ e sz) ⟨b,o,none⟩ news.length c l al ae a4 (by grind[maxLen]) hb (Nat.le_refl _);exact⟨v',w',q1,q2,q3⟩
  | some a0=>
   have aj:∀j x,l0[j]?=some x->w.cell? (a0.add j)=some x:=by grind[Addr.add_lit]
   exact run_append_arg_grows (P:=P) w t ty e a5 z sz I ay hi hz ar ap av ag a0 es.length es.length l0 an aj ⟨b,o,none⟩ news.length c l al ae (by omega) (by grind[maxLen]) hb
 obtain⟨v',w',q1,q2,q3⟩:=ba;obtain⟨g,cap,cur,hv,hg0,hg,hnc,hcm,ac,htk⟩:∃g cap cur,v'=.slice (some ⟨g,0,none⟩) (es.length+news.length) cap/\w.heap.size<=g/\w'.heap[g]?=some (.cells cur e (0,0))/\es.length+news.length<=cap/\cap<=maxLen/\cur.size=cap*sz/\cur.toList.take ((es.length+news.length)*sz)=l0++l:=by
  rcases q2.2 with⟨_,h⟩|⟨g,cap,cur,h1,h2,h3,h4,h5,h6,h7⟩
  ·omega
  ·exact⟨g,cap,cur,h1,h2,h3,h4,h5,h6,h7⟩
 subst hv;have ab:∀k,k<w.heap.size->w'.heap[k]?=w.heap[k]?:=fun k F=>q3.block k F (by simp)
 have J:iL S w w':=fun k F=>ab k (X.fz_lt k (X.ro_fz k F))
 have T:=S.le_addRow (.slice (some ⟨g,0,none⟩) (es.length+news.length) cap) sz;have O:(S.addRow (.slice (some ⟨g,0,none⟩) (es.length+news.length) cap) sz).loc S.N=.slice (some ⟨g,0,none⟩) (es.length+news.length) cap:=by simp[Sg.addRow]
 have Y:∀k r,k≠S.N->aM H S.N (some ⟨e,sz,es++news⟩) k=some r->H k=some r:=fun k r F h=>by rwa [aJ _ _ _ _ F]at h
 refine⟨_,w',q1,⟨_,_,_,rfl⟩,⟨X.ro_fz,fun k F=>Nat.lt_of_lt_of_le (X.fz_lt k F) q3.size,?_,?_,?_,X.tabs.keep T J⟩,⟨T,fun _ h=>h,q3.os,q3.tape,q3.output,q3.size,fun k F=>ab k (X.fz_lt k F),fun _ h=>.inl h⟩⟩
 ·intro k r F;by_cases e0:k=S.N
  ·subst e0;rw[aB]at F;injection F with F;subst F;refine⟨Nat.lt_succ_self _,by simp[Sg.addRow],ag,?_,.inl ⟨l0++l,?_,?_,?_⟩⟩
   ·intro cs ac;rcases List.mem_append.1 ac with ac|ac
    ·exact au cs ac
    ·exact ak cs ac
   ·rw[O,List.length_append];exact⟨by rw[List.length_append,an,al,Nat.add_mul],.inr ⟨g,cap,cur,rfl,Nat.zero_le _,hg,hnc,hcm,ac,htk⟩⟩
   ·rw[List.flatten_append];exact gG _ _ _ _ (eU T J _ _ a8) (eU T J _ _ hl)
   ·intro x hx;rcases List.mem_append.1 hx with hx|hx
    ·exact a9 x hx
    ·exact a4 x hx
  ·have Z:=Y k r e0 F;exact(X.rows k r Z).keep T J fun g' E=>ab g' ((X.rows k r Z).block_lt E)
 ·intro k r F g' E;by_cases e0:k=S.N
  ·subst e0;rw[O]at E;simp only[blk,Option.some.injEq]at E;subst E;exact fun h=>by have:=X.fz_lt _ h;omega
  ·have Z:=Y k r e0 F;rw[T.loc k (X.rows k r Z).lt]at E;exact X.free k r Z g' E
 ·intro k k' r r' F Z ah g' E aa;by_cases e0:k=S.N
  ·subst e0;rw[O]at E;simp only[blk,Option.some.injEq]at E;subst E;have af:=Y k' r' (Ne.symm ah) Z;rw[T.loc k' (X.rows k' r' af).lt]at aa;have:=(X.rows k' r' af).block_lt aa;omega
  ·have af:=Y k r e0 F;rw[T.loc k (X.rows k r af).lt]at E;by_cases e1:k'=S.N
   ·subst e1;rw[O]at aa;simp only[blk,Option.some.injEq]at aa;subst aa;have:=(X.rows k r af).block_lt E;omega
   ·have aq:=Y k' r' e1 Z;rw[T.loc k' (X.rows k' r' aq).lt]at aa;exact X.disj k k' r r' af aq ah g' E aa
end
end Go.Aw
end
section
namespace Go.Aw
open Go.RowKit
mutual
inductive Conv (H:aG):AV->AV->Prop
 | refl (x:AV):Conv H x x
 | any (x:AV):Conv H x .any
 | row (k:Nat) (r:Row) (es:List (List AV)):H k=some r->ConvE H r.es es->Conv H (.os k) (.sl es)
 | sl (es es':List (List AV)):ConvE H es es'->Conv H (.sl es) (.sl es')
 | agg (cs cs':List AV):ConvL H cs cs'->Conv H (.agg cs) (.agg cs')
 | tup (cs cs':List AV):ConvL H cs cs'->Conv H (.tup cs) (.tup cs')
 | ptr (k i f:Nat) (r:Row) (cs:List AV):H k=some r->i<r.es.length->ConvL H (r.es.getD i []) cs->Conv H (.op k i f) (.rp cs f)
 | fn (f:FuncId) (cap cap':List AV):ConvL H cap cap'->Conv H (.fn f cap) (.fn f cap')
inductive ConvL (H:aG):List AV->List AV->Prop
 | nil:ConvL H [] []
 | cons (x y:AV) (r s:List AV):Conv H x y->ConvL H r s->ConvL H (x::r) (y::s)
inductive ConvE (H:aG):List (List AV)->List (List AV)->Prop
 | nil:ConvE H [] []
 | cons (x y:List AV) (r s:List (List AV)):ConvL H x y->ConvE H r s->ConvE H (x::r) (y::s)
end
theorem ConvL.refl{H:aG}:∀l,ConvL H l l
 | []=>.nil
 | x::r=>.cons x x r r (.refl x) (ConvL.refl r)
theorem ConvE.refl{H:aG}:∀l,ConvE H l l
 | []=>.nil
 | x::r=>.cons x x r r (ConvL.refl x) (ConvE.refl r)
def Sg.froze(S:Sg)(H:aG):Sg:=
 { S with ro:=fun g=>S.ro g\/∃k r,H k=some r/\blk (S.loc k)=some g,fz:=fun g=>S.fz g\/∃k r,H k=some r/\blk (S.loc k)=some g }
def Sg.le_froze(S:Sg)(H:aG):S.le (S.froze H):=⟨fun _ h=>.inl h,Nat.le_refl _,fun _ _=>rfl,fun _ _=>rfl⟩
section
variable{S:Sg}{w:World}{H:aG}
def ConvE.len:∀{es es':List (List AV)},ConvE H es es'->es'.length=es.length
 | _,_,.nil=>rfl
 | _,_,.cons _ _ _ _ _ h=>by simp[ConvE.len h]
mutual
theorem Conv.rep(J:St S w H):∀{x y:AV} {u:Value},Conv H x y->rep S w x u->Aw.rep (S.froze H) w y u
 | _,_,_,.refl x,h=>nV (S.le_froze H) (iL.refl S w) _ _ h
 | _,_,_,.any x,_=>by grind[Aw.rep]
 | _,_,u,.row k r es hk I,h=>by
  simp only[Aw.rep]at h |-;obtain⟨_,rfl,_,_,_,O⟩:=h;have T:=J.rows k r hk;obtain⟨xs,ho,hr,h1⟩:=T.sl O;rcases ho.2 with⟨Z,hn⟩|⟨g,cap,cur,Z,_,h2,h3,X,h5⟩
  ·have h0:=List.eq_nil_of_length_eq_zero hn;refine⟨none,0,0,Z,by rw[I.len,hn],Nat.le_refl _,Nat.zero_le _,.inl ?_⟩;exact List.eq_nil_of_length_eq_zero (by rw[I.len,hn])
  ·refine⟨_,_,cap,Z,I.len,h3,X,.inr ⟨g,0,r.sz,rfl,.inr ⟨k,r,hk,by rw[Z];rfl⟩,T.pos,?_⟩⟩;refine ConvE.rep J I ?_;refine tK _ _ T.len (kQ _ xs 0 hr h1 fun j u hu=>?_);have:=ho.cells (g:=g) (by rw[Z];rfl) j u hu
   grind[Addr.add_lit]
 | _,_,_,.sl es es' I,h=>by
  simp only[Aw.rep]at h |-;obtain⟨ad,n,c,rfl,h1,h2,h3,X⟩:=h;refine⟨ad,n,c,rfl,by rw[I.len,h1],h2,h3,?_⟩;rcases X with X|⟨b,o,sz,rfl,hb,hs,aa⟩
  ·exact .inl (List.eq_nil_of_length_eq_zero (by rw[I.len,X];rfl))
  ·exact .inr ⟨b,o,sz,rfl,.inl hb,hs,ConvE.rep J I aa⟩
 | _,_,_,.agg cs cs' hc,h=>by simp only[Aw.rep]at h |-;obtain⟨l,rfl,h1,h2⟩:=h;exact⟨l,rfl,ConvL.rep J hc h1,h2⟩
 | _,_,_,.tup cs cs' hc,h=>by simp only[Aw.rep]at h |-;obtain⟨l,rfl,h1⟩:=h;exact⟨l,rfl,ConvL.rep J hc h1⟩
 | _,_,_,.ptr k i f r cs hk hi hc,h=>by
  simp only[Aw.rep]at h |-;obtain⟨_,g,n,c,E,rfl⟩:=h;have T:=J.rows k r hk;have ab:r.es≠[]:=fun e=>by grind
  obtain⟨g',n',c',F,I,_⟩:=T.els E ab;rw[E]at F;injection F with Y e2 e3;injection Y with Y;injection Y with Y;subst Y;obtain⟨e4,e5⟩:=vJ _ 0 i I hi;rw[Nat.zero_add,T.sz]at e5;exact⟨g,i*S.sz k,rfl,.inr ⟨k,r,hk,by rw[E];rfl⟩,(ConvL.cells J hc e5).1⟩
 | _,_,_,.fn f cap cap' hc,h=>by simp only[Aw.rep]at h |-;obtain⟨l,rfl,h1⟩:=h;exact⟨l,rfl,ConvL.rep J hc h1⟩
theorem ConvL.rep(E:St S w H):∀{x y:List AV} {l:List Value},ConvL H x y->bO S w x l->bO (S.froze H) w y l
 | _,_,_,.nil,h=>h
 | _,_,_,.cons x y r s hx hr,h=>by simp only[bO]at h |-;obtain⟨u,t,rfl,h1,F⟩:=h;exact⟨u,t,rfl,Conv.rep E hx h1,ConvL.rep E hr F⟩
theorem ConvL.cells(E:St S w H){b:Nat}:∀{x y:List AV} {o:Nat},ConvL H x y->dU S w b o x->dU (S.froze H) w b o y/\y.length=x.length
 | _,_,_,.nil,_=>⟨trivial,rfl⟩
 | _,_,o,.cons x y r s hx hr,h=>by simp only[dU]at h |-;obtain⟨⟨u,h1,J,I⟩,T⟩:=h;obtain⟨F,O⟩:=ConvL.cells E hr T;exact⟨⟨⟨u,h1,J,Conv.rep E hx I⟩,F⟩,by simp[O]⟩
theorem ConvE.rep(E:St S w H){b sz:Nat}:∀{x y:List (List AV)} {o:Nat},ConvE H x y->jD S w b sz o x->jD (S.froze H) w b sz o y
 | _,_,_,.nil,_=>trivial
 | _,_,o,.cons x y r s hx hr,h=>by simp only[jD]at h |-;obtain⟨h1,J,I⟩:=h;obtain⟨F,O⟩:=ConvL.cells E hx J;exact⟨by rw[O,h1],F,ConvE.rep E hr I⟩
end
end
mutual
def fv:AV->Option Value
 | .v x=>some x
 | .tup vs=>(fvL vs).map fun l=>.tuple l.toArray
 | .agg vs=>(fvL vs).map fun l=>.agg l.toArray
 | _=>none
def fvL:List AV->Option (List Value)
 | []=>some []
 | x::r=>match fv x,fvL r with
   | some u,some l=>some (u::l)
   | _,_=>none
end
mutual
theorem Ug{S:Sg}{w:World}:∀{x:AV} {u v:Value},fv x=some v->rep S w x u->u=v
 | .v x,u,v,h,hr=>by grind[fv,rep]
 | .tup vs,u,v,h,hr=>by
  simp only[fv]at h;cases E:fvL vs with
  | none=>simp[E]at h
  | some l=>simp[E]at h;subst h;simp only[rep]at hr;obtain⟨l',rfl,h1⟩:=hr;rw[OQ E h1]
 | .agg vs,u,v,h,hr=>by
  simp only[fv]at h;cases E:fvL vs with
  | none=>simp[E]at h
  | some l=>simp[E]at h;subst h;simp only[rep]at hr;obtain⟨l',rfl,h1,_⟩:=hr;rw[OQ E h1]
 | .any,_,_,h,_=>by grind[fv]
 | .sl _,_,_,h,_=>by grind[fv]
 | .rp _ _,_,_,h,_=>by grind[fv]
 | .os _,_,_,h,_=>by grind[fv]
 | .op _ _ _,_,_,h,_=>by grind[fv]
 | .gd _ _,_,_,h,_=>by grind[fv]
 | .fn _ _,_,_,h,_=>by grind[fv]
 | .nf _,_,_,h,_=>by grind[fv]
 | .oz _ _ _,_,_,h,_=>by grind[fv]
 | .cl _,_,_,h,_=>by grind[fv]
theorem OQ{S:Sg}{w:World}:∀{x:List AV} {u v:List Value},fvL x=some v->bO S w x u->u=v
 | [],u,v,h,hr=>by grind[fvL,bO]
 | x::r,u,v,h,hr=>by
  simp only[fvL]at h;cases h1:fv x with
  | none=>simp[h1]at h
  | some a=>
   cases E:fvL r with
   | none=>simp[h1,E]at h
   | some l=>simp[h1,E]at h;subst h;simp only[bO]at hr;obtain⟨J,t,rfl,F,I⟩:=hr;rw[Ug h1 F,OQ E I]
end
mutual
theorem afI{S J:Sg}{w F:World}:∀{x:AV} {u v:Value},fv x=some v->rep S w x u->rep J F x u
 | .v x,u,v,h,hr=>by grind[rep]
 | .tup vs,u,v,h,hr=>by
  simp only[fv]at h;cases E:fvL vs with
  | none=>simp[E]at h
  | some l=>simp only[rep]at hr |-;obtain⟨l',rfl,h1⟩:=hr;exact⟨l',rfl,OL E h1⟩
 | .agg vs,u,v,h,hr=>by
  simp only[fv]at h;cases E:fvL vs with
  | none=>simp[E]at h
  | some l=>simp only[rep]at hr |-;obtain⟨l',rfl,h1,I⟩:=hr;exact⟨l',rfl,OL E h1,I⟩
 | .any,_,_,h,_=>by grind[fv]
 | .sl _,_,_,h,_=>by grind[fv]
 | .rp _ _,_,_,h,_=>by grind[fv]
 | .os _,_,_,h,_=>by grind[fv]
 | .op _ _ _,_,_,h,_=>by grind[fv]
 | .gd _ _,_,_,h,_=>by grind[fv]
 | .fn _ _,_,_,h,_=>by grind[fv]
 | .nf _,_,_,h,_=>by grind[fv]
 | .oz _ _ _,_,_,h,_=>by grind[fv]
 | .cl _,_,_,h,_=>by grind[fv]
theorem OL{S O:Sg}{w I:World}:∀{x:List AV} {u v:List Value},fvL x=some v->bO S w x u->bO O I x u
 | [],u,v,h,hr=>by grind[bO]
 | x::r,u,v,h,hr=>by
  simp only[fvL]at h;cases h1:fv x with
  | none=>simp[h1]at h
  | some a=>
   cases E:fvL r with
   | none=>simp[h1,E]at h
   | some l=>simp only[bO]at hr |-;obtain⟨F,t,rfl,J,T⟩:=hr;exact⟨F,t,rfl,afI h1 J,OL E T⟩
end
def atG(S:Sg)(w:World)(H:aG)(R:AV->aG->Prop)(e:Ending)(w':World):Prop:=
 ∃v r H' S',e=.returned v/\R r H'/\St S' w' H'/\rep S' w' r v/\Grow S w S' w'/\gY S.N H H'
def bK(P:Program)(f:FuncId)(args:List AV)(H:aG)(R:AV->aG->Prop):Prop:=
 ∀S w (vals:List Value),St S w H->bO S w args vals->Calls P f vals.toArray w (atG S w H R)
def bQ:aG:=fun _=>none
def RC(P:Program)(f:FuncId)(args:List AV)(R:AV->aG->Prop):Prop:=
 ∀S w (vals:List Value),St S w bQ->(∀k,k<w.heap.size->S.fz k)->bO S w args vals->Calls P f vals.toArray w (atG S w bQ R)
def PC(P:Program)(f:FuncId)(args:List AV)(r:AV):Prop:=RC P f args fun x _=>x=r
def NC(P:Program)(f:FuncId)(args:List AV)(row:Row)(mk:Nat->AV):Prop:=RC P f args fun x H'=>∃k,x=mk k/\H' k=some row
def EH(P:Program)(f:FuncId)(args:List AV)(H:aG)(r:AV):Prop:=∃args',ConvL H args args'/\PC P f args' r/\(fv r).isSome=true
def eV(P:Program)(f:FuncId)(args:List AV)(H:aG)(r:AV):Prop:=EH P f args H r\/∃x,r=.nf x/\PC P f args x
def PW{q:Bool}{r:AV}{K:AV->Prop}(h:(fv r).isSome=true):nfq q r K=K r:=by cases q <;> cases r <;> first|rfl|(simp[fv]at h)
def QL{q:Bool}{r:AV}{K:AV->Prop}(h:nfq q r K):∃z,K z:=by
 unfold nfq at h
 grind
section
variable{P:Program}{f:FuncId}{args:List AV}{H:aG}{R K:AV->aG->Prop}
def RC.mono(h:RC P f args R)(I:∀r H',R r H'->K r H'):RC P f args K:=fun S w vals J E T=>(h S w vals J E T).mono fun _ _ ⟨v,r,H',S',h1,O,F⟩=>⟨v,r,H',S',h1,I r H' O,F⟩
def St.drop{S:Sg}{w:World}{H':aG}(h:St S w H)(F:∀k r,H' k=some r->H k=some r):St S w H':=
 ⟨h.ro_fz,h.fz_lt,fun k r E=>h.rows k r (F k r E),fun k r E=>h.free k r (F k r E),fun k k' r r' E I=>h.disj k k' r r' (F k r E) (F k' r' I),h.tabs⟩
def RC.conv{r:AV}(h:RC P f args fun x H'=>Conv H' x r):PC P f args r:=fun S w vals Z O X=>
 (h S w vals Z O X).mono fun e w' ⟨v,x,H',S',he,T,F,Y,I,hn⟩=>by
  refine⟨v,r,bQ,S'.froze H',he,rfl,⟨?_,?_,fun k r J=>by grind[bQ],fun k r J=>by grind[bQ],fun k k' r r' J=>by grind[bQ],F.tabs.keep (S'.le_froze H') (iL.refl S' w')⟩,T.rep F Y,?_,fun _ _ _=>rfl⟩
  ·rintro g (E|E)
   ·exact .inl (F.ro_fz g E)
   ·exact .inr E
  ·rintro g (E|⟨k,row,J,E⟩)
   ·exact F.fz_lt g E
   ·exact(F.rows k row J).block_lt E
  ·refine⟨Sg.le_trans I.le (S'.le_froze H'),fun k J=>.inl (I.fz k J),I.os,I.tape,I.output,I.size,I.same,?_⟩;rintro g (E|⟨k,row,J,E⟩)
   ·exact I.newro g E
   ·exact .inr fun h2=>F.free k row J g E (I.fz g h2)
def merge(H H':aG):aG:=fun k=>match H' k with|some r=>some r|none=>H k
def RC.frame(h:RC P f args R)(hK:∀r H',R r H'->(∀k row,H' k=some row->H k=none)->∃Z,K r Z/\(∀k row,Z k=some row->merge H H' k=some row)/\∀k,H k=none->H' k=none->Z k=none):
  bK P f args H K:=by
 intro S w vals I ha
 let S0:Sg:={ S with fz:=fun k=>k<w.heap.size }
 have aj:S.le S0:=⟨fun _ h=>h,Nat.le_refl _,fun _ _=>rfl,fun _ _=>rfl⟩;have ar:St S0 w bQ:=⟨fun k E=>I.fz_lt k (I.ro_fz k E),fun _ h=>h,fun k r E=>by grind[bQ],fun k r E=>by grind[bQ],fun k k' r r' E=>by grind[bQ],I.tabs⟩;refine(h S0 w vals ar (fun _ h=>h) (eU aj (iL.refl S w) _ _ ha)).mono fun e w' ⟨v,x,H',S',he,hx,J,hv,T,hn⟩=>?_
 have au:∀k row,H' k=some row->S.N<=k:=fun k row E=>by
  rcases Nat.lt_or_ge k S.N with ac|am
  ·rw[hn k ac rfl]at E;grind
  omega
 have af:∀k row,H' k=some row->H k=none:=fun k row E=>by
  cases hH:H k with
  | none=>rfl
  | some r=>have:=(I.rows k r hH).lt;grind
 obtain⟨Z,ap,aq,an⟩:=hK x H' hx af
 let S'':Sg:={ S' with fz:=fun k=>S.fz k\/(S'.fz k/\w.heap.size<=k)\/S'.ro k }
 have Y:S'.le S'':=⟨fun _ h=>h,Nat.le_refl _,fun _ _=>rfl,fun _ _=>rfl⟩;have ai:∀k,k<S.N->S'.loc k=S.loc k:=T.le.loc;have ab:S.le S'':=⟨fun k E=>T.le.ro k E,T.le.N,T.le.loc,T.le.sz⟩;have O:∀k,k<w.heap.size->w'.heap[k]?=w.heap[k]?:=T.same;have ad:iL S w w':=fun k E=>O k (I.fz_lt k (I.ro_fz k E))
 have ao:∀k r,H k=some r->RowOK S'' w' k r:=fun k r E=>(I.rows k r E).keep ab ad fun g F=>O g ((I.rows k r E).block_lt F)
 have al:∀k r,H' k=some r->RowOK S'' w' k r:=fun k r E=>(J.rows k r E).keep Y (iL.refl S' w') fun _ _=>rfl
 have aa:∀k r,H k=some r->∀g,blk (S''.loc k)=some g->blk (S.loc k)=some g/\g<w.heap.size:=fun k r E g F=>by have h1:S''.loc k=S.loc k:=ai k (I.rows k r E).lt;rw[h1]at F;exact⟨F,(I.rows k r E).block_lt F⟩
 have ae:∀k r,H' k=some r->∀g,blk (S''.loc k)=some g->¬S'.fz g/\w.heap.size<=g:=fun k r E g F=>by
  have h1:=J.free k r E g F;refine⟨h1,?_⟩;rcases Nat.lt_or_ge g w.heap.size with ac|am
  ·exact absurd (T.fz g ac) h1
  omega
 have EU:∀k r,merge H H' k=some r->H' k=some r\/(H k=some r/\H' k=none):=fun k r E=>by grind[merge]
 have hM:St S'' w' (merge H H'):=by
  refine⟨fun k E=>.inr (.inr E),?_,?_,?_,?_,J.tabs⟩
  ·rintro k (E|E|E)
   ·exact Nat.lt_of_lt_of_le (I.fz_lt k E) T.size
   ·exact J.fz_lt k E.1
   ·exact J.fz_lt k (J.ro_fz k E)
  ·intro k r E
   grind
  ·intro k r E g F X;rcases EU k r E with h'|⟨h',_⟩
   ·obtain⟨e1,e2⟩:=ae k r h' g F;rcases X with X|X|X
    ·have:=I.fz_lt g X;omega
    ·grind
    ·exact e1 (J.ro_fz g X)
   ·obtain⟨e1,e2⟩:=aa k r h' g F;rcases X with X|X|X
    ·exact I.free k r h' g e1 X
    ·omega
    ·rcases T.newro g X with h2|h2
     ·exact I.free k r h' g e1 (I.ro_fz g h2)
     omega
  ·intro k k' r r' E ak ah g F ag;rcases EU k r E with h1|⟨h1,_⟩
   ·rcases EU k' r' ak with h2|⟨h2,_⟩
    ·exact J.disj k k' r r' h1 h2 ah g F ag
    grind
   ·rcases EU k' r' ak with h2|⟨h2,_⟩
    ·grind
    ·exact I.disj k k' r r' h1 h2 ah g (aa k r h1 g F).1 (aa k' r' h2 g ag).1
 refine⟨v,x,Z,S'',he,ap,hM.drop aq,nV Y (iL.refl S' w') _ _ hv,⟨ab,fun _ h=>.inl h,T.os,T.tape,T.output,T.size,fun k E=>O k (I.fz_lt k E),fun k E=>(T.newro k E).imp id (fun h2 h3=>h2 (I.fz_lt k h3))⟩,?_⟩
 ·intro k E h0;exact an k h0 (hn k E rfl)
def PC.use{r:AV}(h:PC P f args r)(E:K r H):bK P f args H K:=
 RC.frame h fun x H' F J=>⟨H,F▸E,fun k row I=>by grind[merge],fun _ h _=>h⟩
def NC.use{row:Row}{E:Nat->AV}(h:NC P f args row E)(F:∀k,H k=none->K (E k) (aM H k (some row))):bK P f args H K:=
 RC.frame h fun x H' ⟨k,I,J⟩ O=>⟨aM H k (some row),I▸F k (O k row J),fun j r T=>by grind[merge,aB,aJ],fun j h0 h1=>by grind[aJ]⟩
def EH.val{r:AV}(h:EH P f args H r):∃v,fv r=some v:=by obtain⟨_,_,_,E⟩:=h;exact Option.isSome_iff_exists.1 E
def EH.calls{r:AV}(h:EH P f args H r){v:Value}(hv:fv r=some v){S:Sg}{w:World}{vals:List Value}(T:St S w H)(ha:bO S w args vals):
  (∀S2 w2,rep S2 w2 r v)/\Calls P f vals.toArray w fun e w'=>e=.returned v/\w'.os=w.os/\w'.tape=w.tape/\w'.output=w.output/\w.heap.size<=w'.heap.size/\∀k,k<w.heap.size->w'.heap[k]?=w.heap[k]?:=by
 obtain⟨args',hc,hp,hf⟩:=h
 let S0:Sg:={ S.froze H with fz:=fun k=>k<w.heap.size }
 have F:(S.froze H).le S0:=⟨fun _ h=>h,Nat.le_refl _,fun _ _=>rfl,fun _ _=>rfl⟩;have Y:St S0 w bQ:=⟨fun k J=>by
  rcases J with J|⟨j,r,hj,I⟩
  ·exact T.fz_lt k (T.ro_fz k J)
  ·exact(T.rows j r hj).block_lt I,fun _ h=>h,fun k r J=>by grind[bQ],fun k r J=>by grind[bQ],fun k k' r r' J=>by grind[bQ],(T.tabs.keep (S.le_froze H) (iL.refl S w)).keep F (iL.refl _ w)⟩
 have E:=hp S0 w vals Y (fun _ h=>h) (eU F (iL.refl _ w) _ _ (hc.rep T ha));refine⟨fun S2 w2=>?_,E.mono fun e w' ⟨v',x,H',S',he,Z,X,O,I,hn⟩=>?_⟩
 ·obtain⟨e,w',fr,⟨v',x,H',S',he,Z,X,O,_⟩,_⟩:=E []
  grind[Ug,afI]
 ·subst Z;have:=Ug hv O;subst this;exact⟨he,I.os,I.tape,I.output,I.size,I.same⟩
def St.after{S:Sg}{w w':World}(E:St S w H)(J:w.heap.size<=w'.heap.size)(F:∀k,k<w.heap.size->w'.heap[k]?=w.heap[k]?):St S w' H:=
 ⟨E.ro_fz,fun k h=>Nat.lt_of_lt_of_le (E.fz_lt k h) J,fun k r h=>(E.rows k r h).keep S.le_refl (fun j I=>F j (E.fz_lt j (E.ro_fz j I))) fun g O=>F g ((E.rows k r h).block_lt O),E.free,E.disj,E.tabs.keep S.le_refl (fun j I=>F j (E.fz_lt j (E.ro_fz j I)))⟩
def St.grow{S:Sg}{w w':World}(O:St S w H)(T:w'.os=w.os)(I:w'.tape=w.tape)(F:w'.output=w.output)(E:w.heap.size<=w'.heap.size)(J:∀k,k<w.heap.size->w'.heap[k]?=w.heap[k]?):Grow S w S w':=
 ⟨S.le_refl,fun _ h=>h,T,I,F,E,fun k h=>J k (O.fz_lt k h),fun _ h=>.inl h⟩
def EH.use{r:AV}(h:EH P f args H r)(Z:K r H):bK P f args H K:=by
 intro S w vals F ha;obtain⟨v,E⟩:=h.val;obtain⟨hv,T⟩:=h.calls E F ha;refine T.mono fun e w' ⟨he,X,O,Y,J,I⟩=>⟨v,r,H,S,he,Z,F.after J I,?_,F.grow X O Y J I,gY.refl _ _⟩
 grind
end
end Go.Aw
end
section
namespace Go.Aw
open Go.RowKit
def Rel(n:Nat)(S0:Sg)(w0:World)(H0:aG)(ρ:Env)(H:aG)(a:Act)(w:World):Prop:=
 ∃S,St S w H/\FR S w ρ a/\Grow S0 w0 S w/\gY S0.N H0 H/\a.defers=[]/\a.tmps.size=n
def auR(n:Nat):Option Nat->Bool
 | some d=>decide (d<n)
 | none=>true
def mA(n:Nat)(o:Oper):Bool:=o.op.operands.all (opB n)&&auR n o.dst
section
variable{P:Program}{n:Nat}{S0:Sg}{w0:World}{H0:aG}{mt:Nat->Bool}{ops:Array Oper}
def AM{o:Oper}(h:mA n o=true):(∀x∈o.op.operands,opB n x=true)/\auR n o.dst=true:=by
 simp only[mA,Bool.and_eq_true]at h
 grind[Array.all_eq_true_iff_forall_mem]
theorem B4(a:Act)(d:Option Nat)(v:Value):(a.put d v).tmps.size=a.tmps.size:=by cases d <;> simp[Act.put]
theorem sU(a:Act)(d:Option Nat)(v:Value):(a.put d v).defers=a.defers:=by cases d <;> simp[Act.put]
def Ad{S:Sg}{w:World}{ρ:Env}{a:Act}{o:Oper}{K:Option Bool->Prop}(E:∀o∈ops,mA n o=true)(T:FR S w ρ a)(Z:a.tmps.size=n)(h:dC ops ρ o.guard K):
  ∃G,K G/\(Region.wanted o (yielded ops a.tmps)=true↔gt G):=by
 unfold dC at h;unfold Region.wanted;cases X:o.guard with
 | none=>grind[gt]
 | some jw=>
  obtain⟨j,F⟩:=jw;rw[X]at h;simp only at h;cases I:(ops[j]?).bind (·.dst)with
  | none=>grind
  | some t=>
   rw[I]at h;simp only at h;have O:t<a.tmps.size:=by
    cases J:ops[j]? with
    | none=>grind
    | some oj=>
     simp[J]at I;have:=(AM (E oj (Array.mem_of_getElem? J))).2
     grind[auR]
   have hy:yielded ops a.tmps j=match a.tmps.getD t undef with| .bool b=>some b|_=>none:=by unfold yielded;simp_all;grind
   have Y:=T t O
   grind[rep,gt,undef]
theorem fW{S:Sg}{w:World}{G:Option Bool}{z:AV}(h:¬gt G):rep S w (wr G z) undef:=by cases G<;>simp_all[gt,wr,rep]
def gT{S:Sg}{w:World}{G:Option Bool}{z:AV}{v:Value}(h:gt G)(E:rep S w z v):rep S w (wr G z) v:=by
 cases G with
 | none=>exact E
 | some b=>
  have:b=true:=h
  grind[wr,rep]
end
section
variable{P:Program}{n:Nat}{S0:Sg}{w0:World}{H0:aG}{mt:Nat->Bool}{ops:Array Oper}{K:Env->aG->Prop}{K':Act->World->Prop}{Q':Exit->Act->World->Prop}{ρ:Env}{H:aG}{a:Act}{w:World}{o:Oper}{S:Sg}
def Bc(P:Program)(ops:Array Oper)(o:Oper)(a:Act)(w:World)(K':Act->World->Prop)(Q':Exit->Act->World->Prop):Prop:=
 (Region.wanted o (yielded ops a.tmps)=true->o.wp P a w K' Q')/\(Region.wanted o (yielded ops a.tmps)=false->K' (a.put o.dst undef) w)
def fQ{v:Value}{w':World}(h:(execOp a.eval o).run P w=.ok (.value v) w')(E:K' (a.put o.dst v) w'):o.wp P a w K' Q':=by unfold Oper.wp;rw[h];exact E
def Rel.step(X:St S w H)(Y:FR S w ρ a)(J:Grow S0 w0 S w)(T:gY S0.N H0 H)(hd:a.defers=[])(Z:a.tmps.size=n){S':Sg}{w':World}{H':aG}{z:AV}{v:Value}{d:Option Nat}
  (I:St S' w' H') (E:Grow S w S' w') (F:gY S.N H H') (O:rep S' w' z v):Rel n S0 w0 H0 (upd ρ d z) H' (a.put d v) w':=
 ⟨S',I,FR.put (Y.keep E.le (E.kept X)) O,J.trans E,T.trans F J.le.N,by grind[sU],by grind[B4]⟩
def vG(I:St S w H)(O:FR S w ρ a)(hG:Grow S0 w0 S w)(Z:gY S0.N H0 H)(hd:a.defers=[])(T:a.tmps.size=n)(hb:∀x∈o.op.operands,opB n x=true){G:Option Bool}
  (J:Region.wanted o (yielded ops a.tmps)=true↔gt G) (hK:∀F H' a' w',K F H'->Rel n S0 w0 H0 F H' a' w'->K' a' w') (h:jG P G ρ H o.op fun x=>K (upd ρ o.dst (wr G x)) H):
  Bc P ops o a w K' Q':=by
 obtain⟨z,Y,hg⟩:=G9 (T▸hb) O I.rows h;refine⟨fun X=>?_,fun X=>?_⟩
 ·have E:=J.1 X;obtain⟨v,hv,hr⟩:=hg E;exact fQ (hr w (Agree.refl S H w) o rfl) (hK _ _ _ _ Y (Rel.step I O hG Z hd T I (Grow.refl S w) (gY.refl _ _) (gT E hv)))
 ·have E:¬gt G:=fun h=>by grind
  exact hK _ _ _ _ Y (Rel.step I O hG Z hd T I (Grow.refl S w) (gY.refl _ _) (fW E))
def qZ(F:St S w H){r:Option Row}:gY S.N H (aM H S.N r):=fun k E h=>by grind[aJ]
def amL(t:TypeId)(v:Value)(w:World):(Instr.box t v).run P w=.ok (.pointer (some ⟨w.heap.size,0,none⟩)) (w.alloc (.cells v.cells t)):=by rfl
def abC{t:TypeId}{z:List AV}(h:eD P t=some z)(F:Value)(w:World):∃(v:Value) (i:TypeInfo),P.info? t=some i/\z=v.cells.toList.map tR/\(∀u∈v.cells.toList,u.oneCell'=true)/\v.cells.size≠0 /\
  (Instr.alloc t true F).run P w=.ok (.pointer (some ⟨w.heap.size,0,none⟩)) (w.alloc (.cells v.cells t)):=by
 obtain⟨i,v,O,T,E,I,J,h1⟩:=pP h;refine⟨v,i,O,E,h1,by omega,?_⟩;simp_all[Instr.alloc,zeroValue,typeInfo,newVar,newRow]
def FB(I:St S w H){t:TypeId}{cs:List AV}{l:List Value}(E:0<cs.length)(F:bO S w cs l)(h1:∀u∈l,u.oneCell'=true):
  ∃S',St S' (w.alloc (.cells l.toArray t)) (aM H S.N (some ⟨t,cs.length,[cs]⟩))/\Grow S w S' (w.alloc (.cells l.toArray t))/\rep S' (w.alloc (.cells l.toArray t)) (.op S.N 0 0) (.pointer (some ⟨w.heap.size,0,none⟩)):=by
 have J:=jB _ _ F;have:=I.newRow (e:=t) (sz:=cs.length) (cap:=1) (es:=[cs]) (xs:=l) (cur:=l.toArray) E (by simp) (by grind) h1 (by simp) (by simp[maxLen]) (by grind) (by simp[<-J]) (w':=w.alloc (.cells l.toArray t)) rfl rfl rfl rfl;refine⟨_,this.1,this.2,?_⟩;simp[rep,Sg.addRow]
theorem Iq:∀(i n:Nat),Pk i n=List.range' i n
 | _,0=>rfl
 | i,n+1=>by simp[Pk,List.range'_succ,Iq (i+1) n]
def Nt{sz n:Nat}:∀(l:List (Nat×List AV)) (vs:List (Nat×Value)) (i:Nat) (A:Array Value),l.map (·.1)=Pk i l.length->dM sz (l.map (·.2))->l.length=vs.length ->
  (∀(j k:Nat) (c:List AV),l[j]?=some (k,c)->∃(v:Value) (l':List Value),vs[j]?=some (k,v)/\v.cells=List.toArray l'/\bO S w c l'/\∀u∈l',u.oneCell'=true)->A.size=n*sz->i+l.length=n ->
  ∃xs:List Value,Instr.fill (fun i=>some (i*sz,sz)) A vs=some (A.toList.take (i*sz)++xs).toArray/\bO S w (l.map (·.2)).flatten xs/\∀u∈xs,u.oneCell'=true
 | [],vs,i,A,_,_,hl,_,hA,hi=>by have:vs=[]:=List.eq_nil_of_length_eq_zero (by grind);subst this;refine⟨[],?_,by rfl,by simp⟩;simp_all[Instr.fill,List.take_of_length_le]
 | (k,c)::rest,vs,i,A,E,hlen,hl,hv,hA,hi=>by
  simp only[List.map_cons,List.length_cons,Pk,List.cons.injEq]at E;obtain⟨rfl,E⟩:=E;simp only[List.map_cons,dM]at hlen;obtain⟨v,l',J,Y,e3,Z⟩:=hv 0 k c (by simp);cases vs with
  | nil=>grind
  | cons q vs=>
   simp at J;subst J;have I:l'.length=sz:=by grind[jB]
   simp only[List.length_cons]at hi;have T:(k+1)*sz<=n*sz:=Nat.mul_le_mul_right _ (by omega);rw[Nat.add_mul,Nat.one_mul]at T;have O:=FU l' 0 A (k*sz) (by omega);simp only[Nat.add_zero]at O;obtain⟨xs,X,f2,f3⟩:=Nt (n:=n) rest vs (k+1) (A.toList.take (k*sz)++l'++A.toList.drop (k*sz+l'.length)).toArray E hlen.2 (by grind) (fun j i c hj=>by simpa using hv (j+1) i c (by grind))
    (by grind) (by omega)
   refine⟨l'++xs,?_,?_,?_⟩
   ·simp only[Instr.fill,Y,List.size_toArray,I];rw[if_neg (by grind)];have F:(Array.foldl (fun cs (x:Value×Nat)=>cs.setIfInBounds (k*sz+x.2) x.1) A l'.toArray.zipIdx)=(A.toList.take (k*sz)++l'++A.toList.drop (k*sz+l'.length)).toArray:=by grind
    rw[F,X]
    congr 2
    have e5:List.take ((k+1)*sz) (A.toList.take (k*sz)++l'++A.toList.drop (k*sz+l'.length))=A.toList.take (k*sz)++l':=by rw[Nat.add_mul,Nat.one_mul,List.take_append_of_le_length (by grind),List.take_of_length_le (by grind)]
    grind
   all_goals grind[gG]
def IZ{t e:TypeId}{sz O:Nat}(he:cN P t=some (e,sz,O)){l:List (Nat×List AV)}{E:Array (Nat×Value)}{m:Nat}(J:l.map (·.1)=Pk 0 m)(T:dM sz (l.map (·.2)))(hl:l.length=E.toList.length)
  (hv:∀(j k:Nat) (c:List AV),l[j]?=some (k,c)->∃(v:Value) (l':List Value),E.toList[j]?=some (k,v)/\v.cells=List.toArray l'/\bO S w c l'/\∀u∈l',u.oneCell'=true) (hm:m*sz<=16777216):
  ∃xs:List Value,(Instr.buildSlice t m E).run P w=.ok (.slice (some ⟨w.heap.size,0,none⟩) m m) (w.alloc (.cells xs.toArray e))/\bO S w (l.map (·.2)).flatten xs/\(∀u∈xs,u.oneCell'=true)/\l.length=m/\xs.length=m*sz:=by
 obtain⟨I,z,hu,hi,rfl,_,ac,_,hz,ad⟩:=jW he;have ab:l.length=m:=by
  have:=congrArg List.length J
  grind[Iq]
 have F:∀xs:List Value,bO S w (l.map (·.2)).flatten xs->xs.length=m*I.size:=fun xs h=>by grind[jB,qP,jV,List.length_map]
 subst ab;obtain⟨xs,f1,f2,f3⟩:=Nt (n:=l.length) l E.toList 0 ((Array.range (l.length*I.size)).map (z.cells[·%z.cells.size]!)) J T hl hv (by simp) (by simp);simp only[Nat.zero_mul,List.take_zero,List.nil_append]at f1;refine⟨xs,?_,f2,f3,rfl,F xs f2⟩;have X:¬l.length*I.size>2^24:=by omega
 by_cases h0:l.length*I.size=0
 ·have Z:l.length=0:=by grind[Nat.mul_eq_zero]
  have Y:E.toList=[]:=List.eq_nil_of_length_eq_zero (by omega);have aa:xs=[]:=List.eq_nil_of_length_eq_zero (by rw[F xs f2,h0]);subst aa;simp[Instr.buildSlice,run_underlying hu,sizeOf,typeInfo,hi,Y,Instr.fill,newRow,Z];have:(Array.range 0).map (fun _=>(default:Value))=#[]:=Array.eq_empty_of_size_eq_zero (by simp);rw[this]
 ·simp[Instr.buildSlice,run_underlying hu,sizeOf,typeInfo,hi,X,h0,zeroValue,hz,newRow];simp_all
end
end Go.Aw
end
section
namespace Go.Aw
open Go.RowKit
section
variable{P:Program}{n:Nat}{S0:Sg}{w0:World}{H0:aG}{mt:Nat->Bool}{ops:Array Oper}{K:Env->aG->Prop}{K':Act->World->Prop}{Q':Exit->Act->World->Prop}{ρ:Env}{H:aG}{a:Act}{w:World}{o:Oper}{S:Sg}
theorem dY{G:Option Bool}(E:Region.wanted o (yielded ops a.tmps)=true↔gt G)(F:G=none):Region.wanted o (yielded ops a.tmps)=true:=by subst F;exact E.2 trivial
def Rk{f:FuncId}(h:aE P f=true):∃fn,P.funcs[f]?=some fn/\(fn.name == "runtime.NumGoroutine")=false/\fn.body.isNone=false:=by unfold aE at h;simp_all;grind
theorem uZ{f:FuncId}(h:aE P f=true)(args:Array Value)(w:World):(callFunc f args).run P w=.ok (.enter f args) w:=by
 obtain⟨fn,h1,J,I⟩:=Rk h;have F:¬fn.name = "runtime.NumGoroutine" := by grind
 have E:¬fn.body=none:=fun e=>by grind
 simp_all[callFunc]
def gV(E:Region.wanted o (yielded ops a.tmps)=true)(h:o.wp P a w K' Q'):Bc P ops o a w K' Q':=⟨fun _=>h,fun e=>by grind⟩
theorem Yn:∀(l:List Value),bO S w (l.map .v) l
 | []=>by rfl
 | v::r=>by simp only[List.map_cons,bO];exact⟨v,r,rfl,rC,Yn r⟩
def DJ{x:AV}{g:FuncId}{F I:List AV}{u:Value}(h:Q7 x=some (g,F,I))(J:rep S w x u):
  ∃first E:Array Value,u=.func (.func g) first E/\bO S w F first.toList/\bO S w I E.toList:=by
 unfold Q7 at h
 grind[rep,Yn,bO]
def qS{c:Call}{f:Operand}(I:c.callee=.value f){g:FuncId}{first E:Array Value}(F:a.eval f=.func (.func g) first E)(ty:TypeId):
  resolve a.eval c ty=pure { target:=.fn (.func g) E,args:=first++c.args.map a.eval }:=by
 unfold resolve;simp only[I];rw[F];rfl
def Ts{nl aw:Bool}{G:Option Bool}{c:Call}(J:St S w H)(hF:FR S w ρ a)(hG:Grow S0 w0 S w)(hN:gY S0.N H0 H)(hd:a.defers=[])(hn:a.tmps.size=n)(ho:o.op=.call c)(hb:∀x∈o.op.operands,opB n x=true)
   (ai:Region.wanted o (yielded ops a.tmps)=true↔gt G) (hK:∀a7 H' a' w',K a7 H'->Rel n S0 w0 H0 a7 H' a' w'->K' a' w') (h:E0 P (bK P) (eV P) nl aw G o c ρ H K):Bc P ops o a w K' Q':=by
 rw[ho]at hb;simp only[Op.operands,Call.operands]at hb;unfold E0 at h;split at h
 . rename_i b hc;obtain⟨ys,h2,ak⟩:=qC hF c.args.toList (fun x hx=>hn▸hb x (by grind)) h;clear h;have h:=h2;clear h2;split at h
   . rename_i x t T;obtain⟨z,hz,hl⟩:=IR (G:=G) (ty:=o.type) J.rows h;refine⟨fun hw=>?_,fun hw=>?_⟩
     . have O:=ai.1 hw;have hr:=ak O;simp only[bO]at hr;obtain⟨u,t',e1,e2,rfl⟩:=hr;obtain⟨v,hv,am⟩:=hl O u e2;have ea:c.args.map a.eval=#[u]:=by grind
       have et:c.argTypes=#[t]:=Array.toList_inj.1 (by omega);refine fQ (v:=v) (w':=w) ?_ (hK _ _ _ _ hz (Rel.step J hF hG hN hd hn J (Grow.refl S w) (gY.refl _ _) (gT O hv)));simp[execOp,ho,resolve,hc,invoke,builtin,ea,et,am w (Agree.refl S H w)]
     . have O:¬gt G:=fun h=>by grind
       exact hK _ _ _ _ hz (Rel.step J hF hG hN hd hn J (Grow.refl S w) (gY.refl _ _) (fW O))
   . rename_i s x t t' T;split at h
     . rename_i Y;obtain⟨bi,ag,_⟩:=Y;subst ag;subst bi;have hw:=dY ai rfl;refine gV hw ?_;have hr:=ak trivial;simp only[bO]at hr;obtain⟨us,t1,e1,e2,ux,t2,rfl,e3,rfl⟩:=hr;have ea:c.args.map a.eval=#[us,ux]:=Array.toList_inj.1 (by simp_all);have et:c.argTypes=#[t,t]:=Array.toList_inj.1 (by omega);unfold wZ at h;split at h
       . rename_i k e sz Z he;split at h
         . rename_i r hk;have app : ∀ news, BE S w ux news -> ((r.e = e /\ r.sz = sz /\ dM sz news /\ (r.es.length + news.length) * Z <= 140737488355328) /\
               ∀k',H k'=none->K (upd ρ o.dst (.os k')) (aM (aM H k none) k' (some ⟨e,sz,r.es++news⟩)))->o.wp P a w K' Q':=by
             rintro news ac ⟨⟨rfl,rfl,aj,ae⟩,aq⟩;simp only[rep]at e2;obtain⟨bj,rfl,_,_,_,az⟩:=e2;obtain⟨v',w',q1,q2,q3,q4⟩:=J.append hk az (ty:=o.type) he ac aj ae;refine fQ (v:=v') (w':=w') ?_ (hK _ _ _ _ (aq S.N J.fresh) (Rel.step J hF hG hN hd hn q3 q4 ?_ ?_))
             . simp_all[execOp,resolve,invoke,builtin]
             . intro j hj h0
               grind[aJ]
             simp_all[rep,Sg.addRow]
           unfold CV at h;split at h
           . grind[Px]
           . rename_i k2;split at h
             . rename_i r2 aa;simp only[rep]at e3;obtain⟨_,rfl,_,_,_,X⟩:=e3;exact app _ (O5 (J.rows k2 r2 aa) X) h
             grind
           . rename_i k2 a2 b2;split at h
             . rename_i r2 aa;exact app _ (Fv (J.rows k2 r2 aa) e3).1 h
             grind
           grind
         grind
       . rename_i es e sz Z he;have app : ∀ news, BE S w ux news -> ((news ≠ [] /\ dM sz es /\ dM sz news /\ (es.length + news.length) * Z <= 140737488355328) /\
             ∀k',H k'=none->K (upd ρ o.dst (.os k')) (aM H k' (some ⟨e,sz,es++news⟩)))->o.wp P a w K' Q':=by
           rintro news ac ⟨⟨ax,a5,aj,ae⟩,aq⟩;obtain⟨v',w',q1,q2,q3,q4⟩:=J.appendNew e2 (ty:=o.type) he ac ax a5 aj ae;refine fQ (v:=v') (w':=w') ?_ (hK _ _ _ _ (aq S.N J.fresh) (Rel.step J hF hG hN hd hn q3 q4 ?_ ?_))
           . simp_all[execOp,resolve,invoke,builtin]
           . intro j hj h0
             grind[aJ]
           simp_all[rep,Sg.addRow]
         unfold CV at h;split at h
         . grind[Px]
         . rename_i k2;split at h
           . rename_i r2 aa;simp only[rep]at e3;obtain⟨_,rfl,_,_,_,X⟩:=e3;exact app _ (O5 (J.rows k2 r2 aa) X) h
           grind
         . rename_i k2 a2 b2;split at h
           . rename_i r2 aa;exact app _ (Fv (J.rows k2 r2 aa) e3).1 h
           grind
         grind
       . rename_i e sz Z he;have bf:rep S w (.cl []) us:=by
           have hu:us=.slice none 0 0:=by grind[rep]
           subst hu;simp only[rep]
           grind
         have app : ∀ news, BE S w ux news -> ((news ≠ [] /\ dM sz ([] : List (List AV)) /\ dM sz news /\ (([] : List (List AV)).length + news.length) * Z <= 140737488355328) /\
             ∀k',H k'=none->K (upd ρ o.dst (.os k')) (aM H k' (some ⟨e,sz,[]++news⟩)))->o.wp P a w K' Q':=by
           rintro news ac ⟨⟨ax,a5,aj,ae⟩,aq⟩;obtain⟨v',w',q1,q2,q3,q4⟩:=J.appendNew bf (ty:=o.type) he ac ax a5 aj ae;refine fQ (v:=v') (w':=w') ?_ (hK _ _ _ _ (aq S.N J.fresh) (Rel.step J hF hG hN hd hn q3 q4 ?_ ?_))
           . simp_all[execOp,resolve,invoke,builtin]
           . intro j hj h0
             grind[aJ]
           simp_all[rep,Sg.addRow]
         unfold CV at h;split at h
         . exact app _ (Px e3) h
         . rename_i k2;split at h
           . rename_i r2 aa;simp only[rep]at e3;obtain⟨_,rfl,_,_,_,X⟩:=e3;exact app _ (O5 (J.rows k2 r2 aa) X) h
           grind
         . rename_i k2 a2 b2;split at h
           . rename_i r2 aa;exact app _ (Fv (J.rows k2 r2 aa) e3).1 h
           grind
         grind
       grind
     grind
   . rename_i x y t t' T;split at h
     . rename_i Y;obtain⟨ag,_⟩:=Y;subst ag;have hw:=dY ai rfl;refine gV hw ?_;have hr:=ak trivial;simp only[bO]at hr;obtain⟨us,t1,e1,e2,ux,t2,rfl,e3,rfl⟩:=hr;have ea:c.args.map a.eval=#[us,ux]:=Array.toList_inj.1 (by simp_all);have et:c.argTypes=#[t,t']:=Array.toList_inj.1 (by omega);have go : ∀ k a0 n0 r, H k = some r -> a0 + n0 <= r.es.length -> (∃ ad cc, us = .slice ad n0 cc /\ (0 < n0 -> ∃ g n' c', S.loc k = .slice (some ⟨g, 0, none⟩) n' c' /\ ad = some ⟨g, a0 * r.sz, none⟩)) -> ∀ news, BE S w ux news ->
           (match cN P t with
             | some (_,sz,_)=>(r.sz=sz/\dM sz news)/\K (upd ρ o.dst (.v (.int .i64 (min news.length n0:Nat)))) (aM H k (some { r with es:=r.es.take a0++news.take (min news.length n0)++r.es.drop (a0+min news.length n0) }))
             | none=>False)->o.wp P a w K' Q':=by
         intro k a0 n0 r hk ay hx news ac ah;split at ah
         . rename_i e sz Z he;obtain⟨⟨h1,h2⟩,h3⟩:=ah;obtain⟨w',q1,q2,q3⟩:=J.copy hk (t':=t') (ty:=o.type) he h1 ay ac h2 hx;refine fQ (v:=goInt (min news.length n0:Nat)) (w':=w') ?_ (hK _ _ _ _ h3 (Rel.step J hF hG hN hd hn q2 q3 ?_ (by rfl)))
           . simp_all[execOp,resolve,invoke,builtin]
           . intro j hj h0
             grind[aJ]
         grind
       have src:∀F:List (List AV)->Prop,CV H y F->∃news,BE S w ux news/\F news:=by
         intro F hF;unfold CV at hF;split at hF
         . grind[Px]
         . rename_i k2;split at hF
           . rename_i r2 aa;simp only[rep]at e3;obtain⟨_,rfl,_,_,_,X⟩:=e3;exact⟨_,O5 (J.rows k2 r2 aa) X,hF⟩
           grind
         . rename_i k2 a2 b2;split at hF
           . rename_i r2 aa;exact⟨_,(Fv (J.rows k2 r2 aa) e3).1,hF⟩
           grind
         grind
       unfold W7 aaS at h;split at h
       . rename_i k;split at h
         . rename_i r hk;obtain⟨news,hs,ah⟩:=src _ h;have hR:=J.rows k r hk;simp only[rep]at e2;obtain⟨_,rfl,ad,n,cc,af⟩:=e2;obtain⟨xs,an,_,_⟩:=hR.sl af;have hn:n=r.es.length/\(0<r.es.length->∃g,ad=some ⟨g,0,none⟩):=by
             rcases an.2 with⟨hv,h0⟩|⟨g,cap,cur,hv,_⟩
             all_goals grind
           refine go k 0 r.es.length r hk (by omega) ⟨ad,cc,by grind,fun hp=>?_⟩ news hs ah
           grind
         grind
       . rename_i k a0 b0;split at h
         . rename_i r hk;obtain⟨news,hs,ah⟩:=src _ h;have hR:=J.rows k r hk;obtain⟨_,hb,bh⟩:=Fv hR e2;simp only[rep]at e2;obtain⟨_,ad,n,c0,a4,cc,af,rfl,_,_,au,_⟩:=e2;refine go k a0 (b0-a0) r hk (by omega) ⟨a4,cc,rfl,fun hp=>?_⟩ news hs ah;obtain⟨g,rfl,rfl⟩:=au (by omega);exact⟨g,n,c0,af,by rw[hR.sz]⟩
         grind
       grind
     grind
   . rename_i x t T;split at h
     . rename_i Y;obtain⟨ag,_⟩:=Y;subst ag;have hw:=dY ai rfl;refine gV hw ?_;have hr:=ak trivial;simp only[bO]at hr;obtain⟨us,t1,e1,e2,rfl⟩:=hr;have ea:c.args.map a.eval=#[us]:=Array.toList_inj.1 (by simp_all);have et:c.argTypes=#[t]:=Array.toList_inj.1 (by omega);have go : ∀ k a0 n0 r, H k = some r -> a0 + n0 <= r.es.length -> (∃ ad cc, us = .slice ad n0 cc /\ (0 < n0 -> ∃ g n' c', S.loc k = .slice (some ⟨g, 0, none⟩) n' c' /\ ad = some ⟨g, a0 * r.sz, none⟩)) ->
           (match cN P t with
             | some (e,sz,_)=>match eD P e with
               | some zs=>r.sz=sz/\K (upd ρ o.dst .any) (aM H k (some { r with es:=r.es.take a0++List.replicate n0 zs++r.es.drop (a0+n0) }))
               | none=>False
             | none=>False)->o.wp P a w K' Q':=by
         intro k a0 n0 r hk ay hx ah;split at ah
         . rename_i e sz Z he;split at ah
           . rename_i zs bc;obtain⟨h1,h3⟩:=ah;obtain⟨w',q1,q2,q3⟩:=J.clear hk (ty:=o.type) he bc h1 ay hx;refine fQ (v:=.tuple #[]) (w':=w') ?_ (hK _ _ _ _ h3 (Rel.step J hF hG hN hd hn q2 q3 ?_ (by grind[rep])))
             . simp[execOp,ho,resolve,hc,invoke,builtin,ea,et,q1]
             . intro j hj h0
               grind[aJ]
           grind
         grind
       unfold NU aaS at h;split at h
       . rename_i k;split at h
         . rename_i r hk;have hR:=J.rows k r hk;simp only[rep]at e2;obtain⟨_,rfl,ad,n,cc,af⟩:=e2;obtain⟨xs,an,_,_⟩:=hR.sl af;have hn:n=r.es.length/\(0<r.es.length->∃g,ad=some ⟨g,0,none⟩):=by
             rcases an.2 with⟨hv,h0⟩|⟨g,cap,cur,hv,_⟩
             all_goals grind
           refine go k 0 r.es.length r hk (by omega) ⟨ad,cc,by grind,fun hp=>?_⟩ h
           grind
         grind
       . rename_i k a0 b0;split at h
         . rename_i r hk;have hR:=J.rows k r hk;obtain⟨_,hb,bh⟩:=Fv hR e2;simp only[rep]at e2;obtain⟨_,ad,n,c0,a4,cc,af,rfl,_,_,au,_⟩:=e2;refine go k a0 (b0-a0) r hk (by omega) ⟨a4,cc,rfl,fun hp=>?_⟩ h;obtain⟨g,rfl,rfl⟩:=au (by omega);exact⟨g,n,c0,af,by rw[hR.sz]⟩
         grind
       grind
     grind
   . rename_i x y t t' T;obtain⟨z,hz,hl⟩:=JP (P:=P) (S:=S) (w:=w) (H:=H) (G:=G) (tys:=c.argTypes) (ty:=o.type) h;refine⟨fun hw=>?_,fun hw=>?_⟩
     . have O:=ai.1 hw;have hr:=ak O;simp only[bO]at hr;obtain⟨us,t1,e1,e2,ux,t2,rfl,e3,rfl⟩:=hr;obtain⟨v,hv,am⟩:=hl O us ux e2 e3;have ea:c.args.map a.eval=#[us,ux]:=Array.toList_inj.1 (by simp_all);refine fQ (v:=v) (w':=w) ?_ (hK _ _ _ _ hz (Rel.step J hF hG hN hd hn J (Grow.refl S w) (gY.refl _ _) (gT O hv)));simp_all[execOp,resolve,invoke,builtin,Agree.refl]
     . have O:¬gt G:=fun h=>by grind
       exact hK _ _ _ _ hz (Rel.step J hF hG hN hd hn J (Grow.refl S w) (gY.refl _ _) (fW O))
   . rename_i x y t t' T;obtain⟨z,hz,hl⟩:=It (P:=P) (S:=S) (w:=w) (H:=H) (G:=G) (tys:=c.argTypes) (ty:=o.type) h;refine⟨fun hw=>?_,fun hw=>?_⟩
     . have O:=ai.1 hw;have hr:=ak O;simp only[bO]at hr;obtain⟨us,t1,e1,e2,ux,t2,rfl,e3,rfl⟩:=hr;obtain⟨v,hv,am⟩:=hl O us ux e2 e3;have ea:c.args.map a.eval=#[us,ux]:=Array.toList_inj.1 (by simp_all);refine fQ (v:=v) (w':=w) ?_ (hK _ _ _ _ hz (Rel.step J hF hG hN hd hn J (Grow.refl S w) (gY.refl _ _) (gT O hv)));simp_all[execOp,resolve,invoke,builtin,Agree.refl]
     . have O:¬gt G:=fun h=>by grind
       exact hK _ _ _ _ hz (Rel.step J hF hG hN hd hn J (Grow.refl S w) (gY.refl _ _) (fW O))
   grind
 . rename_i f hc;obtain⟨yf,h2,hf⟩:=bB (S:=S) (w:=w) h;clear h;have h:=h2;clear h2;split at h
   . rename_i g a6 a8 a9;by_cases ba:nl=true
     . rw[if_pos ba]at h;obtain⟨ag,bk,bg,h⟩:=h;have hw:=ai.2 ag;obtain⟨first,E,ao,h2,h3⟩:=DJ a9 (hf ag _ (dN hF (hn▸hb f (by grind))));have al:bO S w (a6++c.args.toList.map (OT ρ)++a8) (first++c.args.map a.eval++E).toList:=by simp only[Array.toList_append];refine gG _ _ _ _ (gG _ _ _ _ h2 ?_) h3;simp_all[G4]
       have ab:(execOp a.eval o).run P w=.ok (.enter g (first++c.args.map a.eval++E)) w:=by
         simp only[execOp,ho];rw[qS hc ao]
         grind[invoke,uZ]
       refine gV hw ?_;have I:=h S w _ J al;unfold Oper.wp;rw[ab];simp only[Oper.upon,Array.toArray_toList]at I |-;refine I.mono fun e w' ⟨v,r,H',S',he,hr,ar,hv,av,ap⟩=>?_
       subst he;exact hK _ _ _ _ hr (Rel.step J hF hG hN hd hn ar av ap hv)
     rw[if_neg ba]at h;obtain⟨ys,h2,ak⟩:=qC hF c.args.toList (fun x hx=>hn▸hb x (by grind)) h;clear h;obtain⟨bg,h⟩:=h2;have bd:=fun hg=>DJ a9 (hf hg _ (dN hF (hn▸hb f (by grind))))
     have T:gt G->∃first E:Array Value,a.eval f=.func (.func g) first E/\bO S w (a6++ys++a8) (first++c.args.map a.eval++E).toList:=fun hg=>by obtain⟨first,E,h1,h2,h3⟩:=bd hg;refine⟨first,E,h1,?_⟩;simp_all[gG]
     split at h
     . rename_i Y;obtain⟨ag,_⟩:=Y;subst ag;have hw:=dY ai rfl;obtain⟨first,E,ao,al⟩:=T trivial;have ab:(execOp a.eval o).run P w=.ok (.enter g (first++c.args.map a.eval++E)) w:=by
         simp only[execOp,ho];rw[qS hc ao]
         grind[invoke,uZ]
       refine gV hw ?_;have I:=h S w _ J al;unfold Oper.wp;rw[ab];simp only[Oper.upon,Array.toArray_toList]at I |-;refine I.mono fun e w' ⟨v,r,H',S',he,hr,ar,hv,av,ap⟩=>?_
       subst he;exact hK _ _ _ _ hr (Rel.step J hF hG hN hd hn ar av ap hv)
     . obtain⟨r,hq,hk⟩:=h;refine⟨fun hw=>?_,fun hw=>?_⟩
       . have O:=ai.1 hw;obtain⟨first,E,ao,al⟩:=T O;have ab:(execOp a.eval o).run P w=.ok (.enter g (first++c.args.map a.eval++E)) w:=by
           simp only[execOp,ho];rw[qS hc ao]
           grind[invoke,uZ]
         rcases hq O with hq|⟨x,rfl,be⟩
         . obtain⟨v,bb⟩:=hq.val;obtain⟨hv,I⟩:=hq.calls bb J al;rw[PW (by grind)]at hk;unfold Oper.wp;rw[ab];simp only[Oper.upon,Array.toArray_toList]at I |-;refine I.mono fun e w' ⟨he,p1,p2,p3,p4,p5⟩=>?_
           subst he;exact hK _ _ _ _ hk (Rel.step J hF hG hN hd hn (J.after p4 p5) (J.grow p1 p2 p3 p4 p5) (gY.refl _ _) (gT O (hv S w')))
         . cases aw with
           | true=>exact hk.elim
           | false=>
             have I:=(PC.use (H:=H) be (K:=fun y H'=>y=x/\H'=H) ⟨rfl,rfl⟩) S w _ J al;unfold Oper.wp;rw[ab];simp only[Oper.upon,Array.toArray_toList]at I |-;refine I.mono fun e w' ⟨v,r,H',S',he,⟨hr,hH⟩,ar,hv,av,ap⟩=>?_
             subst he hr hH;exact hK _ _ _ _ hk (Rel.step J hF hG hN hd hn ar av ap (gT O hv))
       . have O:¬gt G:=fun h=>by grind
         obtain⟨z,hk⟩:=QL hk;exact hK _ _ _ _ hk (Rel.step J hF hG hN hd hn J (Grow.refl S w) (gY.refl _ _) (fW O))
   grind
 grind
end
end Go.Aw
end
