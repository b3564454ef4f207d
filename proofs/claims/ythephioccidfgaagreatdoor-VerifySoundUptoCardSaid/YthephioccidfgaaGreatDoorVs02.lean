import Derived.MapKept
import Derived.Lib.ItoaMem
import Derived.Lib.TrailingZeros
import Derived.ArgAppend
import Derived.Deep.LoopGhost
import Derived.Test.YthephioccidfgaaGreatDoorVs01
set_option linter.unusedSimpArgs false
set_option linter.unusedVariables false
set_option linter.defProp false
set_option maxRecDepth 100000
section
namespace Go.Aw
open Go.RowKit
section
variable{P:Program}{S:Sg}{H:aG}{w:World}{G:Option Bool}{K:AV->Prop}
theorem iT{n:Nat}:∀{l:List (List AV)},cQ n l↔∀cs∈l,cs.length=n
 | []=>by simp[cQ]
 | x::r=>by simp[cQ,iT (l:=r)]
def DL{α:Type}{n:Nat}{f:α->List AV}(h:∀x,(f x).length=n)(l:List α):cQ n (l.map f):=iT.2 fun cs A=>by grind
def amV{b:Bool}{u:Value}(h:rep S w (.v (.bool b)) u):u=.bool b:=by grind[rep]
theorem Q5{c:Bool}{x y:AV}{u v:Value}(E:c=true->rep S w x u)(A:c=false->rep S w y v):rep S w (Bg c x y) (if c then u else v):=by
 unfold Bg
 grind
def TS{c:Bool}{x y:AV}(h:DC G c x y K):
  ∃z,K z/\(gt G->∀u v,rep S w x u->rep S w y v->rep S w z (if c then u else v)):=by
 unfold DC at h
 grind[Q5,rep]
def LM{v:Value}(h:v.oneCell'=true):v.cells=#[v]:=by cases v <;> first|rfl|grind[Value.oneCell']
def AX{x:AV}{K:List AV->Prop}(h:oQ x K):∃cs,K cs/\∀u,rep S w x u->∃l:List Value,u.cells=l.toArray/\bJ S w cs l/\(∀v∈l,v.oneCell'=true):=by
 have E:∀(x:AV) (u:Value),rep S w x u->u.oneCell'=true->∃l:List Value,u.cells=l.toArray/\bJ S w [x] l/\(∀v∈l,v.oneCell'=true):=fun x u A h1=>⟨[u],LM h1,by grind[bJ],by grind⟩
 unfold oQ at h;split at h
 ·refine⟨_,h,fun u A=>?_⟩;simp only[rep]at A;obtain⟨l,rfl,h1,F⟩:=A;exact⟨l,rfl,h1,F⟩
 ·grind[rep]
 ·refine⟨_,h,fun u A=>E _ u A ?_⟩;simp only[rep]at A;obtain⟨_,_,_,rfl,_⟩:=A;rfl
 ·refine⟨_,h,fun u A=>E _ u A ?_⟩;simp only[rep]at A;obtain⟨_,_,rfl,_⟩:=A;rfl
 ·refine⟨_,h,fun u A=>E _ u A ?_⟩;simp only[rep]at A;obtain⟨_,_,_,_,_,rfl⟩:=A;rfl
 ·refine⟨_,h,fun u A=>E _ u A ?_⟩;simp only[rep]at A;obtain⟨_,_,_,_,_,rfl⟩:=A;rfl
 grind
def F4(v:Value):rep S w (tK v) v:=by
 unfold tK;split
 ·unfold rep
  grind
 rfl
theorem oE:∀(l:List Value),bJ S w (l.map tK) l
 | []=>by rfl
 | v::r=>by simp only[List.map_cons,bJ];exact⟨v,r,rfl,F4 v,oE r⟩
def Gs:∀(l:List Value) (i:Nat) (A:Array Value) (o:Nat),o+i+l.length<=A.size ->
  ((l.zipIdx i).foldl (fun cs (p:Value×Nat)=>cs.setIfInBounds (o+p.2) p.1) A).toList=A.toList.take (o+i)++l++A.toList.drop (o+i+l.length)
 | [],i,A,o,h=>by simp
 | v::r,i,A,o,h=>by
  simp only[List.zipIdx_cons,List.foldl_cons,List.length_cons]at h |-;rw[Gs r (i+1) _ o (by grind)];have J:(A.setIfInBounds (o+i) v).toList=A.toList.set (o+i) v:=by simp
  rw[J,show o+(i+1)=o+i+1 by omega,List.take_set,List.drop_set_of_lt (by omega)];have E:o+i<A.toList.length:=by grind
  have F:(List.take (o+i+1) A.toList).set (o+i) v=List.take (o+i) A.toList++[v]:=by
   rw[List.take_succ_eq_append_getElem E,List.set_append_right _ _ (by grind)];have:(List.take (o+i) A.toList).length=o+i:=by grind
   simp_all
  rw[F];simp only[List.append_assoc,List.cons_append,List.nil_append];rw[show o+i+1+r.length=o+i+(r.length+1)by omega]
def Cs{places:List (Nat×Nat)}{place:Nat->Option (Nat×Nat)}(O:∀i X,places[i]?=some X->place i=some X):∀(E:List (Nat×List AV)) (vs:List (Nat×Value)) (cs:List AV) (A:Array Value) (cs':List AV),
  wB places cs E=some cs'->bJ S w cs A.toList->(∀v∈A.toList,v.oneCell'=true) ->
  E.length=vs.length->(∀(j i:Nat) (c:List AV),E[j]?=some (i,c)->∃(v:Value) (l:List Value),vs[j]?=some (i,v)/\v.cells=List.toArray l/\bJ S w c l/\∀u∈l,u.oneCell'=true) ->
  ∃U,Instr.fill place A vs=some U/\bJ S w cs' U.toList/\(∀v∈U.toList,v.oneCell'=true)
 | [],vs,cs,A,cs',F,hr,h1,hl,_=>by simp only[wB]at F;injection F with F;subst F;have:vs=[]:=List.eq_nil_of_length_eq_zero (by grind);subst this;exact⟨A,rfl,hr,h1⟩
 | (i,c)::rest,vs,cs,A,cs',F,hr,h1,hl,hv=>by
  obtain⟨v,l,e1,e2,e3,e4⟩:=hv 0 i c (by simp);cases vs with
  | nil=>grind
  | cons q vs=>
   simp at e1;subst e1;simp only[wB]at F;cases Z:places[i]? with
   | none=>grind
   | some X=>
    obtain⟨off,n⟩:=X;simp only[Z]at F;split at F
    ·rename_i hc;have Y:l.length=n:=by grind[iK]
     have hA:A.toList.length=cs.length:=iK _ _ hr;have aa:A.size=cs.length:=by omega
     have hz:=Gs l 0 A off (by omega);simp only[Nat.add_zero]at hz;have J:bJ S w (cs.take off++c++cs.drop (off+n)) (A.toList.take off++l++A.toList.drop (off+l.length)):=by grind[eV,vN,vE]
     have T:∀u∈A.toList.take off++l++A.toList.drop (off+l.length),u.oneCell'=true:=by grind
     rw[<-hz]at J T;obtain⟨U,f1,f2,f3⟩:=Cs O rest vs _ _ cs' F J T (by grind) (fun j i c hj=>by simpa using hv (j+1) i c (by grind));refine⟨U,?_,f2,f3⟩;simp only[Instr.fill,O i _ Z,e2,List.size_toArray,Y]
     grind
    grind
def pL{t:TypeId}{z:List AV}(h:dH P t=some z):∃i v,P.info? t=some i/\i.zero=some v/\z=v.cells.toList.map tK/\v.cells.size=i.size/\i.size≠0/\(∀u∈v.cells.toList,u.oneCell'=true):=by grind[dH]
def aT{x:AV}{k:AV->Prop}(h:bU G x k):∃y,k y/\(gt G->∀u,rep S w x u->rep S w y u):=by
 unfold bU at h;split at h
 ·refine⟨_,h.2,fun E u A=>?_⟩;simp only[rep]at A;refine A.1 ?_;have:=h.1;cases G with
  | none=>exact this
  | some b=>exact this E
 grind
def acE{op:UnOp}{x:AV}(h:aun op x K):∃z,K z/\∀u,rep S w x u->AG P S H w z (Op.unary op u):=by
 unfold aun at h;split at h
 ·refine⟨_,h,fun u A=>?_⟩;simp only[rep]at A;subst A;exact iO qI fun w'=>by rfl
 ·refine⟨_,h,fun u A=>?_⟩;simp only[rep]at A;subst A;exact iO qI fun w'=>by rfl
 grind
def abD{t:TypeId}{k:IntKind}(h:LZ P t=some k):P.underlying t=some (.int k):=by grind[LZ]
def Ta{t:TypeId}(h:Kv P t=true):∃e,P.underlying t=some (.slice e)/\P.underlying e=some (.int .u8):=by grind[Kv]
def Jn:∀(es:List (List AV)) (ns:List Int) (o:Nat) {b sz:Nat},Bd es=some ns->iY S w b sz o es->0<sz->ns.length=es.length/\∀j n,ns[j]?=some n->w.cell? ⟨b,o+j,none⟩=some (.int .u8 n)
 | [],ns,o,b,sz,h,_,_=>by grind[Bd]
 | es::r,ns,o,b,sz,h,he,hs=>by
  unfold Bd at h;split at h
  ·rename_i e;simp at e
  ·rename_i n r' e;injection e with U Y;subst U Y;cases A:Bd r with
   | none=>simp[A]at h
   | some ns'=>
    simp[A]at h;subst h;simp only[iY,dD]at he;obtain⟨h1,⟨⟨u,J,_,h3⟩,_⟩,O⟩:=he;simp only[rep]at h3;subst h3;have F:sz=1:=by simpa using h1.symm
    subst F;obtain⟨T,X⟩:=Jn r ns' (o+1) A O hs;refine⟨by simp[T],fun j m E=>?_⟩;cases j with
    | zero=>simp at E;subst E;simpa using J
    | succ j=>rw[show o+(j+1)=o+1+j by omega];exact X j m (by simpa using E)
  ·simp at h
def Tr{src dst:TypeId}{x:AV}(h:B0 P src dst x K):∃z,K z/\∀u,rep S w x u->AG P S H w z (convert src dst u):=by
 unfold B0 at h;split at h
 ·split at h
  ·rename_i k k' hk aa;refine⟨_,h,fun u E=>?_⟩;simp only[rep]at E;subst E;refine iO qI fun w'=>?_
   simp_all[convert,run_underlying,abD,Conv.intToInt]
  grind
 ·split at h
  ·rename_i U;refine⟨_,h,fun u E=>?_⟩;simp only[rep]at E;subst E;refine iO qI fun w'=>?_
   simp_all[convert,run_underlying,lT]
  grind
 ·rename_i es;split at h
  ·rename_i U;split at h
   ·rename_i ns X;refine⟨_,h,fun u E=>?_⟩;obtain⟨e,he,O⟩:=Ta U.1;have hd:=lT U.2;simp only[rep]at E;obtain⟨ad,n,c,rfl,h1,_,_,J⟩:=E;refine⟨_,qI,fun w' ha=>?_⟩;have F:es=[]->ns=[]:=fun e=>by grind[Bd]
    cases ad with
    | none=>
     have:es=[]:=by grind
     rw[run_convert_bytes_nil w' src e he O n c dst hd,F this];rfl
    | some a=>
     have A:(loadCells a n).run P w'=.ok (ns.map (Value.int .u8)).toArray w':=by
      rcases J with J|⟨b,o,sz,J,hb,Y,T⟩
      ·have Z:n=0:=by grind
       simp_all[loadCells,loadCellsFrom]
      ·injection J with J;subst J;obtain⟨i1,i2⟩:=Jn es ns o X T Y;have Z:n=(ns.map (Value.int .u8)).length:=by grind
       rw[Z];refine run_loadCells_list w' _ _ fun j v hj=>?_
       rw[Addr.add_lit];simp at hj;obtain⟨m,hm,rfl⟩:=hj;exact ha.cell hb (i2 j m hm)
     rw[run_convert_bytes_string w' src dst e _ n c he O hd,run_bytesToString w' a n c ns A,foldl_push_bytes]
     congr 3
     simp
   grind
  grind
 grind
def GE{t:TypeId}{e sz A:Nat}(E:cA P t=some (e,sz,A)):P.underlying t=some (.slice (P.elem t))/\∀w:World,(sizeOf (P.elem t)).run P w=.ok sz w:=by obtain⟨i,z,J,O,F,_⟩:=gM E;simp_all[Program.elem,sizeOf,typeInfo]
def Ie{t:TypeId}{x a b:AV}(h:HJ P G t x a b K):
  ∃z,K z/\(gt G->∀(u E F:Value),rep S w x u->rep S w a E->rep S w b F->AG P S H w z (Instr.sliceAt t u none (some E) (some F))):=by
 unfold HJ at h;split at h
 ·rename_i es ka a kb b;split at h
  ·rename_i e he;refine⟨_,h.2,fun U u E F T h1 J=>?_⟩;obtain⟨Z,e2⟩:=h.1 U;simp only[rep]at T h1 J;subst h1 J Z e2;obtain⟨ad,n,c,rfl,rfl,X,hm,h4⟩:=T;obtain⟨A,O⟩:=GE (P:=P) (t:=t) (by rw[he]);refine⟨.slice ad es.length es.length,?_,fun w' _=>?_⟩
   ·grind[rep]
   ·rw[run_sliceAt_slice w' t _ _ _ _ A];have aa:(es.length:Int)<=(c:Int):=by exact_mod_cast X
    rcases h4 with rfl|⟨bb,o,sz,rfl,_⟩
    ·simp[Instr.slice,run_underlying A,Instr.sliceBounds,Instr.sliceBound,asIntOf,O]
    ·simp[Instr.slice,run_underlying A,Instr.sliceBounds,Instr.sliceBound,asIntOf,O,Addr.add];intro Y;omega
  grind
 grind
def Kx{es:List (List AV)}{ad:Option Addr}{n c sz a b:Nat}(U:rep S w (.sl es) (.slice ad n c))(O:cQ sz es)(Y:a<=b)(hb:b<=es.length):
  rep S w (.sl ((es.take b).drop a)) (sliced ad a b c sz):=by
 simp only[rep]at U |-;obtain⟨ac,n',c',e,h1,h2,h3,T⟩:=U;injection e with X e2 e3;subst X e2 e3;refine⟨_,_,_,rfl,by grind,by omega,by omega,?_⟩;by_cases ab:(es.take b).drop a=[]
 ·grind
 ·refine .inr ?_;rcases T with T|⟨bl,o,A,rfl,J,hs,E⟩
  ·grind
  ·have Z:0<es.length:=by grind
   have F:A=sz:=by
    have X:=(vJ es o 0 E Z).1
    grind[iT]
   subst F;have aa:a<b:=by grind
   refine⟨bl,o+a*A,A,?_,J,hs,?_⟩
   all_goals grind[Addr.add_lit,DQ,AD]
def PB{t:TypeId}{x:AV}{lo hi:Option AV}(h:oS P G t x lo hi K):
  ∃z,K z/\(gt G->∀(u:Value) (Z Y:Option Value),rep S w x u->(∀y,lo=some y->∃v,Z=some v/\rep S w y v)->(lo=none->Z=none)->(∀y,hi=some y->∃v,Y=some v/\rep S w y v)->(hi=none->Y=none) ->
   AG P S H w z (Instr.sliceAt t u Z Y none)):=by
 unfold oS at h;split at h
 ·rename_i es ka a kb b;split at h
  ·rename_i e sz aa he;refine⟨_,h.2,fun F u Z Y A U _ O _=>?_⟩;obtain⟨⟨h0,h1,h2⟩,h3⟩:=h.1 F;obtain⟨v,rfl,E⟩:=U _ rfl;obtain⟨v',rfl,J⟩:=O _ rfl;simp only[rep]at E J;subst E J;have T:=A;simp only[rep]at T;obtain⟨ad,n,c,rfl,e1,e2,_⟩:=T;obtain⟨X,hz⟩:=GE he;have:=Kx (a:=a.toNat) (b:=b.toNat) A h3 (by omega) (by omega);refine⟨_,this,fun w' _=>?_⟩;rw[run_sliceAt_slice w' t _ _ _ _ X,run_slice_lh w' t ad n c X ka kb a b h0 h1 (by omega),hz];rfl
  grind
 ·rename_i es ka a;split at h
  ·rename_i e sz aa he;refine⟨_,h.2,fun F u Z Y A U _ _ O=>?_⟩;obtain⟨⟨h0,h1⟩,h3⟩:=h.1 F;obtain⟨v,rfl,E⟩:=U _ rfl;have:=O rfl;subst this;simp only[rep]at E;subst E;have T:=A;simp only[rep]at T;obtain⟨ad,n,c,rfl,e1,e2,_⟩:=T;obtain⟨X,hz⟩:=GE he;have:=Kx (a:=a.toNat) (b:=es.length) A h3 (by omega) (by omega);rw[List.take_length,e1]at this;refine⟨_,this,fun w' _=>?_⟩;simp_all[run_sliceAt_slice,run_slice_l]
  grind
 ·rename_i es kb b;split at h
  ·rename_i e he;refine⟨_,h.2,fun F u Z Y A _ U O _=>?_⟩;obtain⟨h0,h1⟩:=h.1 F;obtain⟨v,rfl,E⟩:=O _ rfl;have:=U rfl;subst this;simp only[rep]at E;subst E;obtain⟨X,hz⟩:=GE he;simp only[rep]at A;obtain⟨ad,n,c,rfl,e1,e2,e3,e4⟩:=A;refine⟨sliced ad 0 b.toNat c e.2.1,?_,fun w' _=>?_⟩
   ·simp only[rep];refine⟨ad,b.toNat,c,?_,by grind,by omega,e3,?_⟩
    ·simp[sliced,Addr.add_zero']
    ·rcases e4 with e4|⟨bl,o,ae,rfl,af,ac,ab⟩
     ·grind
     ·exact .inr ⟨bl,o,ae,rfl,af,ac,AD es o _ ab⟩
   ·rw[run_sliceAt_slice w' t _ _ _ _ X,run_slice_h w' t ad n c X kb b h0 (by omega),hz];rfl
  grind
 ·rename_i s ka a kb b;split at h
  ·rename_i X;refine⟨_,h.2,fun F u Z Y A U _ O _=>?_⟩;obtain⟨h0,h1,h2⟩:=h.1 F;obtain⟨v,rfl,E⟩:=U _ rfl;obtain⟨v',rfl,J⟩:=O _ rfl;simp only[rep]at A E J;subst A E J;refine iO qI fun w'=>?_
   grind[run_sliceAt_string,lT,run_slice_string]
  grind
 ·rename_i s ka a;split at h
  ·rename_i X;refine⟨_,h.2,fun F u Z Y A U _ _ O=>?_⟩;obtain⟨h0,h1⟩:=h.1 F;obtain⟨v,rfl,E⟩:=U _ rfl;have:=O rfl;subst this;simp only[rep]at A E;subst A E;refine iO qI fun w'=>?_
   grind[run_sliceAt_string,lT,run_slice_string_l]
  grind
 ·rename_i s kb b;split at h
  ·rename_i X;refine⟨_,h.2,fun F u Z Y A _ U O _=>?_⟩;obtain⟨h0,h1⟩:=h.1 F;obtain⟨v,rfl,E⟩:=O _ rfl;have:=U rfl;subst this;simp only[rep]at A E;subst A E;refine iO qI fun w'=>?_
   grind[run_sliceAt_string,lT,run_slice_string_h]
  grind
 grind
def XN{k:Nat}{r:Row}(hH:Ct S w H)(Z:H k=some r){a b c:Nat}{ad:Option Addr}{n:Nat}(O:S.loc k=.slice ad n c)(F:a<=b)(hb:b<=r.es.length):n=r.es.length/\n<=c/\rep S w (.oz k a b) (sliced ad a b c r.sz):=by
 have J:=hH k r Z;obtain⟨xs,Y,_,_⟩:=J.sl O;have A:(ad=none/\n=0/\c=0/\r.es.length=0)\/∃g,ad=some ⟨g,0,none⟩/\n=r.es.length/\n<=c:=by
  rcases Y.2 with⟨U,E⟩|⟨g,cap,cur,U,_,_,X,_⟩
  all_goals grind
 have E:n=r.es.length/\n<=c:=by omega
 refine⟨E.1,E.2,?_⟩;simp only[rep,sliced];refine⟨J.lt,ad,n,c,_,_,O,rfl,F,by omega,fun aa=>?_,fun ha=>?_,E.2,rfl⟩
 ·rcases A with⟨_,h1,T,h3⟩|⟨g,h0,h1,T⟩
  ·omega
  ·subst h0;refine⟨g,rfl,?_⟩;rw[if_neg (by omega)];simp[Addr.add_lit,J.sz]
 grind[Addr.add_lit]
def vH{H':aG}{t:TypeId}{x:AV}{lo hi:Option AV}(hH:Ct S w H)(h:asl P G H t x lo hi K):
  ∃z,K z/\(gt G->∀(u:Value) (vl Z:Option Value),rep S w x u->(∀y,lo=some y->∃v,vl=some v/\rep S w y v)->(lo=none->vl=none)->(∀y,hi=some y->∃v,Z=some v/\rep S w y v)->(hi=none->Z=none) ->
   AG P S H' w z (Instr.sliceAt t u vl Z none)):=by
 unfold asl at h;split at h
 ·rename_i k;split at h
  ·rename_i r e sz X hk he;obtain⟨T,hz⟩:=GE he;split at h
   ·rename_i ka a kb b;refine⟨_,h.2,fun O u vl Z E Y _ U _=>?_⟩;obtain⟨⟨h0,h1,h2⟩,h3⟩:=h.1 O;obtain⟨v,rfl,F⟩:=Y _ rfl;obtain⟨v',rfl,aa⟩:=U _ rfl;simp only[rep]at F aa E;subst F aa;obtain⟨_,rfl,ad,n,c,A⟩:=E;obtain⟨q1,q2,q3⟩:=XN (a:=a.toNat) (b:=b.toNat) hH hk A (by omega) (by omega);rw[A];refine⟨_,q3,fun w' _=>?_⟩;rw[run_sliceAt_slice w' t _ _ _ _ T,run_slice_lh w' t ad n c T ka kb a b h0 h1 (by omega),hz,h3];rfl
   ·rename_i ka a;refine⟨_,h.2,fun O u vl Z E Y _ _ U=>?_⟩;obtain⟨⟨h0,h1⟩,h3⟩:=h.1 O;obtain⟨v,rfl,F⟩:=Y _ rfl;have:=U rfl;subst this;simp only[rep]at F E;subst F;obtain⟨_,rfl,ad,n,c,A⟩:=E;obtain⟨q1,q2,q3⟩:=XN (a:=a.toNat) (b:=r.es.length) hH hk A (by omega) (by omega);rw[A];refine⟨_,q3,fun w' _=>?_⟩;simp_all[run_sliceAt_slice,run_slice_l]
   ·rename_i kb b;refine⟨_,h.2,fun O u vl Z E _ Y U _=>?_⟩;obtain⟨⟨h0,h1⟩,h3⟩:=h.1 O;obtain⟨v,rfl,F⟩:=U _ rfl;have:=Y rfl;subst this;simp only[rep]at F E;subst F;obtain⟨_,rfl,ad,n,c,A⟩:=E;obtain⟨q1,q2,q3⟩:=XN (a:=0) (b:=b.toNat) hH hk A (by omega) (by omega);rw[A];refine⟨_,q3,fun w' _=>?_⟩;rw[run_sliceAt_slice w' t _ _ _ _ T,run_slice_h w' t ad n c T kb b h0 (by omega),hz,h3];rfl
   ·exact h.elim
  ·exact h.elim
 ·rename_i k a b;split at h
  ·rename_i r e sz X hk he;obtain⟨T,hz⟩:=GE he;split at h
   ·rename_i kl l;refine⟨_,h.2,fun O u vl Z E Y _ _ U=>?_⟩;obtain⟨⟨h0,h1⟩,h3⟩:=h.1 O;obtain⟨v,rfl,F⟩:=Y _ rfl;have:=U rfl;subst this;simp only[rep]at F E;subst F;obtain⟨ae,ad,n,c,ab,cc,A,rfl,aj,ah,J,ai,af,rfl⟩:=E;have hR:=hH k r hk;refine⟨sliced ab l.toNat (b-a) (c-a) r.sz,?_,fun w' _=>?_⟩
    ·simp only[rep,sliced];refine⟨ae,ad,n,c,_,_,A,congrArg (fun m=>Value.slice _ m _) (by omega),by omega,ah,fun hc=>?_,fun ha=>?_,af,by omega⟩
     ·obtain⟨g,rfl,rfl⟩:=J (by omega);refine⟨g,rfl,?_⟩;rw[if_neg (by omega)];simp[Addr.add_lit,hR.sz,Nat.add_mul]
     ·have ac:a=0:=by omega
      have ag:l.toNat=0:=by omega
      obtain⟨e1,e2⟩:=ai ac;subst e1;refine⟨?_,by omega⟩;rw[ag];split
      ·rfl
      ·rename_i ak;obtain⟨g,e1,e2⟩:=J (by omega);rw[e1];simp[Addr.add_lit]
    ·rw[run_sliceAt_slice w' t _ _ _ _ T,run_slice_l w' t ab (b-a) (c-a) T kl l h0 (by omega),hz,h3];rfl
   grind
  grind
 ·exact PB h
def Qu{t:TypeId}{x i:AV}(h:AL P G t x i K):
  ∃z,K z/\(gt G->∀u v,rep S w x u->rep S w i v->AG P S H w z (Instr.index t u v)):=by
 unfold AL at h;split at h
 ·rename_i s k n;split at h
  ·rename_i hs;refine⟨_,h.2,fun E u v F A=>?_⟩;obtain⟨h0,h1⟩:=h.1 E;simp only[rep]at F A;subst F A;refine iO qI fun w'=>?_
   rw[run_index_string w' t s k n (lT hs),dif_pos ⟨h0,h1⟩];have J:n.toNat<s.data.size:=by simp_all
   congr 4
   rw[Array.getD,dif_pos J];rfl
  grind
 ·rename_i cs k n;split at h
  ·rename_i m s l ha;obtain⟨e,X,F,hi,rfl,_,hl⟩:=Nr ha;obtain⟨z,Z,hd⟩:=Il (S:=S) (H:=H) (w:=w) hl h.2;refine⟨z,Z,fun E u v O A=>?_⟩;obtain⟨h0,h1⟩:=h.1 E;obtain⟨cs',rfl,T⟩:=hd E u O;simp only[rep]at A;subst A;obtain⟨r,Y,U⟩:=T;refine⟨r,Y,fun w' hw=>?_⟩;simp_all[Instr.index,asIntOf,run_underlying,sizeOf,typeInfo]
  grind
 grind
def opB(n:Nat):Operand->Bool
 | .tmp t=>decide (t<n)
 | _=>true
def FR(S:Sg)(w:World)(ρ:Env)(a:Act):Prop:=∀t,t<a.tmps.size->rep S w (ρ t) (a.tmps.getD t undef)
theorem cV{ρ:Env}{a:Act}(E:FR S w ρ a){x:Operand}(A:opB a.tmps.size x=true):rep S w (aev ρ x) (a.eval x):=by
 cases x with
 | tmp t=>simp only[opB,decide_eq_true_eq]at A;exact E t A
 | const v=>exact F4 v
 | global g=>trivial
 | func f=>rfl
def Vi{ρ:Env}{a:Act}(A:FR S w ρ a){x:Operand}(E:opB a.tmps.size x=true):rep S w (Pc ρ x) (a.eval x):=by
 cases x with
 | const v=>rfl
 | tmp t=>exact cV A E
 | global g=>exact cV A E
 | func f=>rfl
def Hi{ρ:Env}{a:Act}(A:FR S w ρ a):∀(l:List Operand),(∀x∈l,opB a.tmps.size x=true)->bJ S w (l.map (Pc ρ)) (l.map a.eval)
 | [],_=>rfl
 | x::l,h=>by simp only[List.map_cons,bJ];exact⟨_,_,rfl,Vi A (h x (by simp)),Hi A l fun y E=>h y (by simp[E])⟩
def qR{ρ:Env}{a:Act}(O:FR S w ρ a):∀(l:List (Nat×Operand)) {K:List (Nat×List AV)->Prop},(∀p∈l,opB a.tmps.size p.2=true)->sM G ρ l K ->
  ∃A,K A/\(gt G->A.length=(l.map fun p=>(p.1,a.eval p.2)).length /\
   ∀(j i:Nat) (c:List AV),A[j]?=some (i,c)->∃(v:Value) (l':List Value),(l.map fun p=>(p.1,a.eval p.2))[j]?=some (i,v)/\v.cells=List.toArray l'/\bJ S w c l'/\∀u∈l',u.oneCell'=true)
 | [],K,_,h=>⟨[],h,fun _=>⟨rfl,by simp⟩⟩
 | (i,x)::rest,K,hb,h=>by
  simp only[sM]at h;obtain⟨y,h,X⟩:=aT (S:=S) (w:=w) h;obtain⟨cs,h,E⟩:=AX (S:=S) (w:=w) h;obtain⟨A,U,F⟩:=qR O rest (fun p Y=>hb p (by grind)) h;refine⟨_,U,fun J=>?_⟩;obtain⟨e1,e2⟩:=F J;refine⟨by grind,fun j k c T=>?_⟩;cases j with
  | zero=>
   simp at T;obtain⟨rfl,rfl⟩:=T;obtain⟨l',f1,f2,Z⟩:=E _ (X J _ (cV O (hb (i,x) (by simp))))
   grind
  | succ j=>grind
def yP{t:TypeId}{i:TypeInfo}{E:Value}{z:List AV}{X:List (Nat×Nat)}(hi:P.info? t=some i)(aa:i.zero=some E)(h1:∀u∈E.cells.toList,u.oneCell'=true)(hr:bJ S w z E.cells.toList)(J:dP P t=some X){A:List (Nat×List AV)}{vs:List (Nat×Value)}{cs:List AV}
  (hf:wB X z A=some cs) (Y:A.length=vs.length)
  (Z:∀(j i:Nat) (c:List AV),A[j]?=some (i,c)->∃(v:Value) (l:List Value),vs[j]?=some (i,v)/\v.cells=List.toArray l/\bJ S w c l/\∀u∈l,u.oneCell'=true):
  ∃F,P.built t vs=some F/\bJ S w cs F.toList/\∀v∈F.toList,v.oneCell'=true:=by
 unfold dP at J;split at J
 ·rename_i fs hu;obtain⟨F,f1,f2,f3⟩:=Cs (place:=fun i=>X.toArray[i]?) (fun i on h=>by grind) A vs _ E.cells cs hf hr h1 Y Z
  grind[Program.built]
 ·rename_i n e hu;cases T:P.info? e with
  | none=>grind
  | some ie=>
   simp[T]at J;obtain⟨F,f1,f2,f3⟩:=Cs (place:=fun i=>some (i*ie.size,ie.size)) (fun i on h=>by
    rw[<-J]at h;simp only[List.getElem?_map,Option.map_eq_some_iff]at h;obtain⟨j,h,rfl⟩:=h;have U:i<n:=by
     rcases Nat.lt_or_ge i n with O|O
     ·exact O
     ·simp[O]at h
    simp[U]at h;rw[h]) A vs _ E.cells cs hf hr h1 Y Z
   grind[Program.built]
 grind
def Ov{t:TypeId}{z:List AV}{J:List (Nat×Nat)}(Y:dH P t=some z)(T:dP P t=some J){A:List (Nat×List AV)}{vs:List (Nat×Value)}{cs:List AV}
  (hf:wB J z A=some cs) (U:A.length=vs.length)
  (X:∀(j i:Nat) (c:List AV),A[j]?=some (i,c)->∃(v:Value) (l:List Value),vs[j]?=some (i,v)/\v.cells=List.toArray l/\bJ S w c l/\∀u∈l,u.oneCell'=true):
  ∃F,P.built t vs=some F/\bJ S w cs F.toList/\∀v∈F.toList,v.oneCell'=true:=by
 obtain⟨i,O,hi,E,rfl,Z,_,h1⟩:=pL Y;exact yP hi E h1 (oE O.cells.toList) T hf U X
end
end Go.Aw
end
section
namespace Go.Aw
open Go.RowKit
section
variable{P:Program}{S:Sg}{H:aG}{w:World}{G:Option Bool}{K:AV->Prop}
theorem acV{a b:ByteArray}(h:a.toList=b.toList):a=b:=by grind[ByteArray.toList_eq,ByteArray.ext,Array.toList_inj]
def acR{t:TypeId}{A:TypeId×TypeId}(h:Vk P t=some A):P.underlying t=some (.map A.1 A.2):=by grind[Vk]
def MI{t:TypeId}{z:AV}(h:Oq P t=some z):∃v,(∀w':World,(zeroValue t).run P w'=.ok v w')/\∀S w,rep S w z v:=by
 unfold Oq at h;split at h
 ·rename_i i F;split at h
  ·rename_i cs E;split at h
   ·rename_i A;injection h with h;subst h;refine⟨.agg cs,fun w'=>by simp_all[zeroValue,typeInfo],fun S w=>?_⟩
    grind[rep,oE]
   grind
  ·rename_i v _ E;split at h
   ·injection h with h;subst h;simp_all[zeroValue,typeInfo,F4]
   grind
  grind
 grind
def MG{T:TypeId}{x y:AV}{b:Bool}(h:wI P T x y=some b){u v:Value}(X:rep S w x u)(U:rep S w y v):
  ∃d,P.underlying T=some d/\Instr.sameNow d u v=some b/\(b=true->u=v/\∀n,Instr.sameBits (n+1) v u=true):=by
 unfold wI at h;split at h
 ·rename_i a c;simp only[rep]at X U;subst X U;split at h
  ·rename_i k J;unfold Al at h;split at h
   ·rename_i Z a1 k2 Y E F;cases E;cases F;split at h
    ·rename_i O;subst O;rcases pI J with⟨_,k',A⟩|⟨h0,_⟩|⟨h0,_⟩
     ·injection h with h;subst h;simp_all[Instr.sameNow,Instr.sameBits]
     all_goals omega
    grind
   ·rename_i a1 Y E F;cases E;cases F;rcases pI J with⟨h0,_⟩|⟨_,A⟩|⟨h0,_⟩
    all_goals grind[beq_toListBytes,Instr.sameNow,acV,Instr.sameBits]
   ·rename_i a1 Y E F;cases E;cases F;rcases pI J with⟨h0,_⟩|⟨h0,_⟩|⟨_,A⟩
    ·omega
    ·omega
    ·injection h with h;subst h;simp_all[Instr.sameNow,Instr.sameBits]
   grind
  grind
 grind
def Ny{X:TypeId}{x:AV}{u:Value}{d:TypeDesc}(T:P.underlying X=some d)(U:rep S w x u):∀(es:List (List AV)) (ms:List MapEntry) (i:Nat) {oi:Option Nat},oC S w i es ms->xY (wI P X x) es i=some oi ->
  (oi=none->Instr.findNow d u ms i=some none)/\∀j,oi=some j->∃m cs,i<=j/\ms[j-i]?=some m/\es[j-i]?=some cs/\Instr.findNow d u ms i=some (some (j,m.val))/\m.key=u/\(∀n,Instr.sameBits (n+1) m.key u=true)/\m.born=j/\bJ S w cs [m.key,m.val]
 | [],ms,i,oi,he,E=>by simp only[oC]at he;subst he;simp only[xY]at E;injection E with E;subst E;exact⟨fun _=>rfl,fun j h=>by grind⟩
 | cs::r,ms,i,oi,he,E=>by
  simp only[oC]at he;obtain⟨m,t,rfl,Z,hr,ht⟩:=he;unfold xY at E;have Y:rep S w (cs.getD 0 .any) m.key:=by cases cs<;>grind[bJ]
  split at E
  ·rename_i F;injection E with E;subst E;obtain⟨d',A,h1,O⟩:=MG F U Y;rw[T]at A;injection A with A;subst A;refine⟨fun h=>by grind,fun j J=>?_⟩;injection J with J;subst J;exact⟨m,cs,Nat.le_refl _,by simp,by simp,by grind[Instr.findNow],(O rfl).1.symm,(O rfl).2,Z,hr⟩
  ·rename_i F;obtain⟨d',A,h1,O⟩:=MG F U Y;rw[T]at A;injection A with A;subst A;obtain⟨g1,g2⟩:=Ny T U r t (i+1) ht E;refine⟨fun h=>by simp[Instr.findNow,h1,g1 h],fun j J=>?_⟩;obtain⟨m',cs',q1,q2,q3,q4,q5⟩:=g2 j J;have e:j-i=(j-(i+1))+1:=by omega
   exact⟨m',cs',by omega,by rw[e];simpa using q2,by rw[e];simpa using q3,by simp[Instr.findNow,h1,q4],q5⟩
  ·simp at E
theorem Cl:∀(i:Nat) (es:List (List AV)) (ms:List MapEntry),oC S w i es ms->ms.length=es.length
 | _,[],ms,h=>by grind[oC]
 | i,cs::r,ms,h=>by simp only[oC]at h;obtain⟨m,t,rfl,_,_,h3⟩:=h;simp[Cl (i+1) r t h3]
def Un:∀(i:Nat) (es:List (List AV)) (ms:List MapEntry) (j:Nat),oC S w i es ms->j<es.length->∃m,ms[j]?=some m/\m.born=i+j/\bJ S w (es.getD j []) [m.key,m.val]
 | _,[],_,_,_,h=>by grind
 | i,cs::r,ms,0,h,_=>by grind[oC]
 | i,cs::r,ms,j+1,h,hj=>by simp only[oC]at h;obtain⟨m,t,rfl,_,_,h3⟩:=h;obtain⟨A,E,F,g3⟩:=Un (i+1) r t j h3 (by simpa using hj);exact⟨A,by simpa using E,by omega,by simpa using g3⟩
def ED:∀(i:Nat) (es:List (List AV)) (ms:List MapEntry) (j:Nat) {cs:List AV} {m:MapEntry},oC S w i es ms->m.born=i+j->bJ S w cs [m.key,m.val]->oC S w i (es.set j cs) (ms.set j m)
 | _,[],ms,_,_,_,h,_,_=>by grind[oC]
 | i,c::r,ms,0,cs,m,h,hb,hr=>by grind[oC]
 | i,c::r,ms,j+1,cs,m,h,hb,hr=>by simp only[oC]at h;obtain⟨E,t,rfl,h1,A,h3⟩:=h;simp only[List.set_cons_succ,oC];exact⟨E,t.set j m,rfl,h1,A,ED (i+1) r t j h3 (by omega) hr⟩
def Ft:∀(i:Nat) (es:List (List AV)) (ms:List MapEntry) {cs:List AV} {m:MapEntry},oC S w i es ms->m.born=i+es.length->bJ S w cs [m.key,m.val]->oC S w i (es++[cs]) (ms++[m])
 | i,[],ms,cs,m,h,hb,hr=>by grind[oC]
 | i,c::r,ms,cs,m,h,hb,hr=>by simp only[oC]at h;obtain⟨E,t,rfl,h1,A,h3⟩:=h;simp only[List.cons_append,oC];exact⟨E,t++[m],rfl,h1,A,Ft (i+1) r t h3 (by simp at hb;omega) hr⟩
def BD{A:TypeId}{x:AV}(h:rS P A x=true){u:Value}(E:rep S w x u)(e:Bool)(n:Nat)(w':World):(∃d,P.underlying A=some d)/\(Instr.checkKey e (n+1) A u).run P w'=.ok () w':=by
 unfold rS at h;split at h
 all_goals first|(simp at h;done)|skip
 all_goals
  simp only[beq_iff_eq]at h;simp only[rep]at E;subst E;rcases pI h with⟨h0,k',hk'⟩|⟨h0,hk'⟩|⟨h0,hk'⟩ <;> first
   | (simp at h0;done)
   | exact⟨⟨_,hk'⟩,by unfold Instr.checkKey;simp only[Sem.run_bind,run_underlying hk',Result.andThen];rfl⟩
def RE{t:TypeId}{A:TypeId×TypeId}{x:AV}{r:Row}{k:Nat}{u:Value}{E:Option Nat}(U:Vk P t=some A)(J:rS P A.1 x=true)(X:xY (wI P A.1 x) r.es 0=some E)(Z:ahT S w k r)(F:rep S w x u):
  ∃g ms,S.loc k=.map (some g)/\w.heap[g]?=some (.map (List.toArray ms) ms.length)/\oC S w 0 r.es ms/\P.underlying t=some (.map A.1 A.2)/\(∀e (w':World),(Instr.checkKey e 10000 A.1 u).run P w'=.ok () w') /\
   ((E=none/\∀w':World,(Instr.findKey A.1 u ms).run P w'=.ok none w') \/
   ∃j m cs,E=some j/\ms[j]?=some m/\r.es[j]?=some cs/\(∀w':World,(Instr.findKey A.1 u ms).run P w'=.ok (some (j,m.val)) w')/\m.key=u/\(∀n,Instr.sameBits (n+1) m.key u=true)/\m.born=j/\bJ S w cs [m.key,m.val]):=by
 obtain⟨g,ms,h1,O,h3,_⟩:=Z;obtain⟨⟨d,T⟩,_⟩:=BD J F true 0 w;refine⟨g,ms,h1,O,h3,acR U,fun e w'=>(BD J F e 9999 w').2,?_⟩;obtain⟨f1,Y⟩:=Ny T F r.es ms 0 h3 X;cases E with
 | none=>simp_all[Instr.findKey,run_underlying]
 | some j=>obtain⟨m,cs,_,q2,q3,q4,q5,q6,q7,q8⟩:=Y j rfl;simp_all[Instr.findKey,run_underlying]
def Ji{cs:List AV}{a b:Value}(h:bJ S w cs [a,b]):∃x y,cs=[x,y]/\rep S w x a/\rep S w y b:=by
 cases cs with
 | nil=>grind[bJ]
 | cons x cs=>
  simp only[bJ]at h;obtain⟨u,t,e,h1,F⟩:=h;injection e with A E;subst A E;cases cs with
  | nil=>grind[bJ]
  | cons y cs=>simp only[bJ]at F;obtain⟨u,t,e,h3,J⟩:=F;injection e with A E;subst A E;cases cs<;>grind[bJ]
def LH{t:TypeId}{x J:AV}{ok:Bool}(hH:Ct S w H)(h:xM P H t x J ok K):
  ∃z,K z/\(gt G->∀u v,rep S w x u->rep S w J v->AG P S H w z (Instr.lookup t u v ok)):=by
 unfold xM Ia at h;split at h
 ·rename_i j;split at h
  ·rename_i r kt hj ht;split at h
   ·rename_i oi hf;obtain⟨hp,h⟩:=h;split at h
    ·rename_i z hz;refine⟨_,h,fun _ u v hu hv=>?_⟩;simp only[rep]at hu;obtain⟨_,rfl,g0,Y⟩:=hu;obtain⟨g,ms,h1,h2,h3,T,U,O⟩:=RE ht hp hf ((hH j r hj).mp Y) hv;obtain⟨Z,F,X⟩:=MI hz;have A:∀w',Agree S H w w'->w'.heap[g]?=some (.map (List.toArray ms) ms.length):=fun w' E=>(E.own j r hj g (by rw[h1];rfl)).trans h2
     rcases O with⟨rfl,O⟩|⟨i,m,cs,rfl,q1,q2,q3,q4,q5,q6,q7⟩
     ·cases ok with
      | false=>refine⟨Z,X S w,fun w' E=>?_⟩;simp[Instr.lookup,run_underlying T,h1,MapKept.run_getObj_map (A w' E),U,O,F]
      | true=>
       refine⟨.tuple #[Z,.bool false],?_,fun w' E=>?_⟩
       ·simp_all[Pi,rep,bJ]
       ·simp[Instr.lookup,run_underlying T,h1,MapKept.run_getObj_map (A w' E),U,O,F]
     ·obtain⟨xk,xv,rfl,r1,r2⟩:=Ji q7;have e1:(r.es.getD i []).getD 1 .any=xv:=by grind
      cases ok with
      | false=>refine⟨m.val,by grind[Pi],fun w' E=>?_⟩;simp[Instr.lookup,run_underlying T,h1,MapKept.run_getObj_map (A w' E),U,q3]
      | true=>
       refine⟨.tuple #[m.val,.bool true],?_,fun w' E=>?_⟩
       ·simp_all[Pi,rep,bJ]
       ·simp[Instr.lookup,run_underlying T,h1,MapKept.run_getObj_map (A w' E),U,q3]
    grind
   grind
  grind
 grind
end
end Go.Aw
end
section
namespace Go.Aw
open Go.RowKit
section
variable{P:Program}{S:Sg}{H:aG}{w:World}{G:Option Bool}{K:AV->Prop}
def oJ(P:Program)(S:Sg)(H:aG)(w:World)(a:Act)(op:Op)(z:AV):Prop:=
 ∃v,rep S w z v/\∀w',Agree S H w w'->∀o:Oper,o.op=op->(execOp a.eval o).run P w'=.ok (.value v) w'
theorem oJ.of_does{a:Act}{op:Op}{z:AV}{s:Sem Value}(A:AG P S H w z s)(F:∀o:Oper,o.op=op->execOp a.eval o=(do pure (Next.value (<-s)):Sem Next)):oJ P S H w a op z:=by obtain⟨v,E,J⟩:=A;exact⟨v,E,fun w' O o T=>by simp_all⟩
def qM{G:Option Bool}{ρ:Env}{a:Act}(J:FR S w ρ a):∀(l:List Operand) {K:List AV->Prop},(∀x∈l,opB a.tmps.size x=true)->DE G ρ l K ->
  ∃A,K A/\(gt G->bJ S w A (l.map a.eval))
 | [],K,_,h=>⟨[],h,fun _=>by rfl⟩
 | x::rest,K,hb,h=>by
  simp only[DE]at h;obtain⟨y,h,U⟩:=aT (S:=S) (w:=w) h;obtain⟨A,F,E⟩:=qM J rest (fun x O=>hb x (by grind)) h;refine⟨_,F,fun T=>?_⟩;simp only[List.map_cons,bJ]
  grind[cV]
def H5{ρ:Env}{a:Act}{op:Op}(Z:∀x∈op.operands,opB a.tmps.size x=true)(hF:FR S w ρ a)(hH:Ct S w H)(h:jE P G ρ H op K):
  ∃z,K z/\(gt G->oJ P S H w a op z):=by
 have ev:=fun x F=>cV hF (Z x F)
 cases op <;> simp only[jE]at h <;> simp only[Op.operands]at ev Z <;> try exact h.elim
 case move x=>obtain⟨z,E,U⟩:=aT (S:=S) (w:=w) h;exact⟨z,E,fun A=>⟨_,U A _ (ev x (by simp)),fun w' _ o J=>by simp[execOp,J]⟩⟩
 case assign x=>obtain⟨z,E,U⟩:=aT (S:=S) (w:=w) h;exact⟨z,E,fun A=>⟨_,U A _ (ev x (by simp)),fun w' _ o J=>by simp[execOp,J]⟩⟩
 case pick c x y=>
  obtain⟨zc,h,hc⟩:=aT (S:=S) (w:=w) h;split at h
  ·rename_i b;obtain⟨z,E,U⟩:=TS (S:=S) (w:=w) h;refine⟨z,E,fun A=>?_⟩;have e:=amV (hc A _ (ev c (by simp)));refine⟨_,U A _ _ (ev x (by simp)) (ev y (by simp)),fun w' _ o J=>?_⟩;simp_all[execOp,asBool]
  grind
 case build t parts=>
  obtain⟨ps,h,ag⟩:=qR hF parts.toList (fun p hp=>Z p.2 (by grind)) h;unfold BW at h;split at h
  ·rename_i z pl E ab;split at h
   ·rename_i cs af;refine⟨_,h,fun A=>?_⟩;obtain⟨e1,e2⟩:=ag A;obtain⟨A',f1,f2,f3⟩:=Ov (S:=S) (w:=w) E ab af e1 e2;refine⟨.agg A',by grind[rep],fun w' _ o J=>?_⟩;simp_all[execOp,run_build]
   grind
  grind
 case load t x=>
  split at h
  ·rename_i l hl;obtain⟨y,h,U⟩:=aT (S:=S) (w:=w) h
   grind[HD,oJ.of_does,execOp]
  grind
 case nilCheck x=>
  obtain⟨y,h,U⟩:=aT (S:=S) (w:=w) h;split at h
  ·refine⟨_,h,fun A=>?_⟩;have e:=U A _ (ev x (by simp));refine⟨_,e,fun w' _ o J=>?_⟩;simp only[rep]at e;obtain⟨b,p,e,_⟩:=e;simp_all[execOp]
  ·refine⟨_,h,fun A=>?_⟩;have e:=U A _ (ev x (by simp));refine⟨_,e,fun w' _ o J=>?_⟩;simp only[rep]at e;obtain⟨_,b,p,c,_,e⟩:=e;simp_all[execOp]
  all_goals grind
 case binOp op t x y t'=>
  split at h
  ·rename_i ak;have U:y=.const (.slice none 0 0):=by grind[vS]
   subst U;obtain⟨X,h,F⟩:=aT (S:=S) (w:=w) h;obtain⟨ac,h⟩:=h;obtain⟨e,ah⟩:=xS ac;have aj:∀(b:Bool) (ad:Option Addr) (n c:Nat),a.eval x=.slice ad n c->(op=.eql/\b=ad.isNone\/op=.neq/\b= !ad.isNone)->oJ P S H w a (.binOp op t x (.const (.slice none 0 0)) t') (.v (.bool b)):=by
    intro b ad n c F Z;refine⟨.bool b,by rfl,fun w' _ o J=>?_⟩;have ec:a.eval (.const (.slice none 0 0))=.slice none 0 0:=rfl;simp only[execOp,J,F,ec];have A:(eqGuard op t x (.const (.slice none 0 0)) (.slice ad n c) (.slice none 0 0)).run P w'=.ok () w':=iN op t x _ _ _ (by simp) (by simp) w';have he:(Op.equal t (.slice ad n c) (.slice none 0 0)).run P w'=.ok ad.isNone w':=by have e0:Op.equal t (.slice ad n c) (.slice none 0 0)=Op.equalIn (9999+1) t (.slice ad n c) (.slice none 0 0):=rfl;rw[e0];unfold Op.equalIn;cases ad <;> simp[run_underlying ah]
    rcases Z with⟨rfl,rfl⟩|⟨rfl,rfl⟩
    all_goals simp_all[binOp]
   by_cases A:gt G
   ·have ex:=F A _ (ev x (by simp));unfold uI at h
    grind[rep]
   ·unfold uI at h
    grind
  obtain⟨X,h,F⟩:=aT (S:=S) (w:=w) h;obtain⟨y',h,U⟩:=aT (S:=S) (w:=w) h;obtain⟨z,E,O⟩:=VA (S:=S) (H:=H) (w:=w) h;exact⟨z,E,fun A=>oJ.of_does (O A _ _ (F A _ (ev x (by simp))) (U A _ (ev y (by simp))) x y) (fun o J=>by grind[execOp])⟩
 case unOp op t x=>
  obtain⟨X,h,F⟩:=aT (S:=S) (w:=w) h;obtain⟨z,E,O⟩:=acE (P:=P) (S:=S) (H:=H) (w:=w) h
  grind[oJ.of_does,execOp]
 case convert src dst x=>
  obtain⟨X,h,F⟩:=aT (S:=S) (w:=w) h;obtain⟨z,E,O⟩:=Tr (S:=S) (H:=H) (w:=w) h
  grind[oJ.of_does,execOp]
 case slice t x lo T m=>
  cases m with
  | some m=>
   cases lo with
   | some lo=>grind
   | none=>
    cases T with
    | none=>grind
    | some T=>simp only at h;obtain⟨X,h,F⟩:=aT (S:=S) (w:=w) h;obtain⟨aa,h,Y⟩:=aT (S:=S) (w:=w) h;obtain⟨m',h,hm⟩:=aT (S:=S) (w:=w) h;obtain⟨z,E,O⟩:=Ie (S:=S) (w:=w) (H:=H) h;exact⟨z,E,fun A=>oJ.of_does (O A _ _ _ (F A _ (ev x (by simp))) (Y A _ (ev T (by simp))) (hm A _ (ev m (by simp)))) (fun o J=>by grind[execOp])⟩
  | none=>
   simp only at h;obtain⟨X,h,F⟩:=aT (S:=S) (w:=w) h;cases lo with
   | some lo=>
    cases T with
    | some T=>
     obtain⟨ae,h,ai⟩:=aT (S:=S) (w:=w) h;obtain⟨aa,h,Y⟩:=aT (S:=S) (w:=w) h;obtain⟨z,E,O⟩:=vH hH h;refine⟨z,E,fun A=>oJ.of_does (O A _ (some (a.eval lo)) (some (a.eval T)) (F A _ (ev x (by simp))) ?_ (by simp) ?_ (by simp)) (fun o J=>by grind[execOp])⟩
     all_goals grind
    | none=>
     obtain⟨ae,h,ai⟩:=aT (S:=S) (w:=w) h;obtain⟨z,E,O⟩:=vH hH h;refine⟨z,E,fun A=>oJ.of_does (O A _ (some (a.eval lo)) none (F A _ (ev x (by simp))) ?_ (by simp) (by simp) (by simp)) (fun o J=>by grind[execOp])⟩
     grind
   | none=>
    cases T with
    | some T=>
     obtain⟨aa,h,Y⟩:=aT (S:=S) (w:=w) h;obtain⟨z,E,O⟩:=vH hH h;refine⟨z,E,fun A=>oJ.of_does (O A _ none (some (a.eval T)) (F A _ (ev x (by simp))) (by simp) (by simp) ?_ (by simp)) (fun o J=>by grind[execOp])⟩
     grind
    | none=>grind
 case fieldAddr t x f=>
  obtain⟨X,h,F⟩:=aT (S:=S) (w:=w) h;obtain⟨z,E,O⟩:=GC (G:=G) (S:=S) (H:=H) (w:=w) h
  grind[oJ.of_does,execOp]
 case field t x f=>
  split at h
  ·rename_i o l J;obtain⟨X,h,F⟩:=aT (S:=S) (w:=w) h;obtain⟨fs,fd,i,hu,hf,rfl,T,_,hl⟩:=Du J;obtain⟨z,E,O⟩:=Il (S:=S) (H:=H) (w:=w) hl h;refine⟨z,E,fun A=>?_⟩;obtain⟨cs,e,O⟩:=O A _ (F A _ (ev x (by simp)));refine oJ.of_does (s:=Instr.field t (.agg cs) f) ?_ (fun o J=>by grind[execOp]);obtain⟨v,hv,hr⟩:=O;refine⟨v,hv,fun w' ha=>?_⟩;simp_all[Instr.field,run_underlying,asAgg]
  grind
 case indexAddr t x i=>
  obtain⟨X,h,F⟩:=aT (S:=S) (w:=w) h;obtain⟨i',h,T⟩:=aT (S:=S) (w:=w) h
  grind[G0,oJ.of_does,execOp]
 case index t x i=>
  obtain⟨X,h,F⟩:=aT (S:=S) (w:=w) h;obtain⟨i',h,T⟩:=aT (S:=S) (w:=w) h;obtain⟨z,E,O⟩:=Qu (S:=S) (H:=H) (w:=w) h
  grind[oJ.of_does,execOp]
 case extract x i=>
  obtain⟨X,h,F⟩:=aT (S:=S) (w:=w) h;split at h
  ·rename_i vs;refine⟨_,h.2,fun A=>?_⟩;have e:=F A _ (ev x (by simp));simp only[rep]at e;obtain⟨l,e,hl⟩:=e;obtain⟨u,h1,h2⟩:=Ep vs l i hl (h.1 A);exact⟨u,h2,fun w' _ o J=>by simp_all[execOp,Instr.extract]⟩
  grind
 case lookup t x i ok=>
  obtain⟨X,h,F⟩:=aT (S:=S) (w:=w) h;obtain⟨i',h,T⟩:=aT (S:=S) (w:=w) h;obtain⟨z,E,O⟩:=LH (G:=G) hH h
  grind[oJ.of_does,execOp]
 case makeFunc f first cap=>
  cases f <;> simp only at h <;> try exact h.elim
  rename_i f;obtain⟨hf,h⟩:=h;subst hf;obtain⟨ys,E,al⟩:=qM hF cap.toList (fun x F=>Z x (by grind)) h;refine⟨_,E,fun A=>⟨.func (.func f) #[] (cap.map a.eval),?_,fun w' _ o J=>by simp[execOp,J,Instr.makeFunc]⟩⟩
  grind[rep,Array.toList_map]
def EN{H':aG}{ρ:Env}{a:Act}{t:TypeId}{x:Operand}{lo E m:Option Operand}(hb:∀y∈(Op.slice t x lo E m).operands,opB a.tmps.size y=true)(hF:FR S w ρ a)(hH:Ct S w H)(h:jE P G ρ H (.slice t x lo E m) K):
  ∃z,K z/\(gt G->oJ P S H' w a (.slice t x lo E m) z):=by
 have ev:=fun x T=>cV hF (hb x T)
 simp only[jE]at h;simp only[Op.operands]at ev hb;cases m with
 | some m=>
  cases lo with
  | some lo=>grind
  | none=>
   cases E with
   | none=>grind
   | some E=>simp only at h;obtain⟨x',h,T⟩:=aT (S:=S) (w:=w) h;obtain⟨U,h,O⟩:=aT (S:=S) (w:=w) h;obtain⟨m',h,hm⟩:=aT (S:=S) (w:=w) h;obtain⟨z,J,F⟩:=Ie (S:=S) (w:=w) (H:=H') h;exact⟨z,J,fun A=>oJ.of_does (F A _ _ _ (T A _ (ev x (by simp))) (O A _ (ev E (by simp))) (hm A _ (ev m (by simp)))) (fun o X=>by grind[execOp])⟩
 | none=>
  simp only at h;obtain⟨x',h,T⟩:=aT (S:=S) (w:=w) h;cases lo with
  | some lo=>
   cases E with
   | some E=>
    obtain⟨Z,h,Y⟩:=aT (S:=S) (w:=w) h;obtain⟨U,h,O⟩:=aT (S:=S) (w:=w) h;obtain⟨z,J,F⟩:=vH hH h;refine⟨z,J,fun A=>oJ.of_does (F A _ (some (a.eval lo)) (some (a.eval E)) (T A _ (ev x (by simp))) ?_ (by simp) ?_ (by simp)) (fun o X=>by grind[execOp])⟩
    all_goals grind
   | none=>
    obtain⟨Z,h,Y⟩:=aT (S:=S) (w:=w) h;obtain⟨z,J,F⟩:=vH hH h;refine⟨z,J,fun A=>oJ.of_does (F A _ (some (a.eval lo)) none (T A _ (ev x (by simp))) ?_ (by simp) (by simp) (by simp)) (fun o X=>by grind[execOp])⟩
    grind
  | none=>
   cases E with
   | some E=>
    obtain⟨U,h,O⟩:=aT (S:=S) (w:=w) h;obtain⟨z,J,F⟩:=vH hH h;refine⟨z,J,fun A=>oJ.of_does (F A _ none (some (a.eval E)) (T A _ (ev x (by simp))) (by simp) (by simp) ?_ (by simp)) (fun o X=>by grind[execOp])⟩
    grind
   | none=>grind
end
end Go.Aw
end
section
namespace Go.Aw
def aiQ:Array Value:=(Go.Lib.pow10Tab.map fun z=>Value.int .u64 z).toArray
def Vz:Array Value:=(Go.Lib.deBruijn64tab.map fun z:Nat=>Value.int .u8 (z:Int)).toArray
def adI:List (Nat×Array Value):=[(1,aiQ),(3,Vz)]
end Go.Aw
end
section
namespace Go.Aw
open Go.RowKit
def vU(w:World)(g:Nat):Option (Array Value):=match w.heap[g]? with
 | some (.cells cs _ _)=>some cs
 | _=>none
def P2(S:Sg)(w:World):Prop:=∀t∈adI,S.ro t.1/\vU w t.1=some t.2
def P2.keep{S S':Sg}{w w':World}(h:P2 S w)(E:S.le S')(F:gZ S w w'):P2 S' w':=fun t A=>⟨E.ro _ (h t A).1,by unfold vU;rw[F t.1 (h t A).1];exact(h t A).2⟩
structure St(S:Sg)(w:World)(H:aG):Prop where
 ro_fz:∀k,S.ro k->S.fz k
 fz_lt:∀k,S.fz k->k<w.heap.size
 rows:Ct S w H
 free:∀k r,H k=some r->∀g,blk (S.loc k)=some g->¬S.fz g
 disj:∀k k' r r',H k=some r->H k'=some r'->k≠k'->∀g,blk (S.loc k)=some g->blk (S.loc k')≠some g
 tabs:P2 S w
structure Grow(S:Sg)(w:World)(S':Sg)(w':World):Prop where
 le:S.le S'
 fz:∀k,S.fz k->S'.fz k
 os:w'.os=w.os
 tape:w'.tape=w.tape
 output:w'.output=w.output
 size:w.heap.size<=w'.heap.size
 same:∀k,S.fz k->w'.heap[k]?=w.heap[k]?
 newro:∀k,S'.ro k->S.ro k\/¬S.fz k
theorem Grow.refl(S:Sg)(w:World):Grow S w S w:=⟨S.le_refl,fun _ h=>h,rfl,rfl,rfl,Nat.le_refl _,fun _ _=>rfl,fun _ h=>.inl h⟩
def Grow.trans{S S' F:Sg}{w w' J:World}(h:Grow S w S' w')(A:Grow S' w' F J):Grow S w F J:=
 ⟨Sg.le_trans h.le A.le,fun k E=>A.fz k (h.fz k E),A.os.trans h.os,A.tape.trans h.tape,A.output.trans h.output,Nat.le_trans h.size A.size,
  fun k E=>(A.same k (h.fz k E)).trans (h.same k E),
  fun k E=>by rcases A.newro k E with h1|h1;exact h.newro k h1;exact .inr fun O=>h1 (h.fz k O)⟩
def gC(N:Nat)(H H':aG):Prop:=∀k,k<N->H k=none->H' k=none
theorem gC.refl(N:Nat)(H:aG):gC N H H:=fun _ _ h=>h
def gC.trans{N E:Nat}{H H' A:aG}(h:gC N H H')(O:gC E H' A)(J:N<=E):gC N H A:=fun k F h0=>O k (Nat.lt_of_lt_of_le F J) (h k F h0)
section
variable{S S':Sg}{w w':World}{H H':aG}
def St.kept(A:St S w H)(E:∀k,S.fz k->w'.heap[k]?=w.heap[k]?):gZ S w w':=fun k F=>E k (A.ro_fz k F)
def Grow.kept(E:St S w H)(A:Grow S w S' w'):gZ S w w':=E.kept A.same
def St.fresh(A:St S w H):H S.N=none:=by
 cases h:H S.N with
 | none=>rfl
 | some r=>exact absurd (A.rows _ r h).lt (Nat.lt_irrefl _)
def RowOK.block_lt{k:Nat}{r:Row}(h:RowOK S w k r){g:Nat}(A:blk (S.loc k)=some g):g<w.heap.size:=by
 rcases h.own with⟨xs,E,_⟩|⟨J,ms,h1,F,_⟩
 ·refine(E.lt g ?_).2;rcases E.2 with⟨hv,_⟩|⟨_,_,_,hv,_⟩ <;> (rw[hv]at A |-;exact A)
 ·rw[h1]at A;injection A with A
  grind
def GN(A:S.le S')(E:gZ S w w'):∀(i:Nat) (es:List (List AV)) (ms:List MapEntry),oC S w i es ms->oC S' w' i es ms
 | _,[],_,h=>h
 | i,cs::r,ms,h=>by simp only[oC]at h |-;obtain⟨m,t,rfl,h1,F,h3⟩:=h;exact⟨m,t,rfl,h1,eG A E _ _ F,GN A E (i+1) r t h3⟩
def RowOK.keep{k:Nat}{r:Row}(h:RowOK S w k r)(A:S.le S')(T:gZ S w w')(F:∀g,blk (S.loc k)=some g->w'.heap[g]?=w.heap[g]?):RowOK S' w' k r:=by
 refine⟨Nat.lt_of_lt_of_le h.lt A.N,by rw[A.sz k h.lt];exact h.sz,h.pos,h.len,?_⟩;rcases h.own with⟨xs,O,U,h1⟩|⟨g,ms,h1,E,h3⟩
 ·refine .inl ?_;unfold Qy;rw[A.loc k h.lt];refine⟨xs,⟨O.1,?_⟩,eG A T _ _ U,h1⟩;rcases O.2 with E|⟨g,cap,cur,J,h3,X,Y⟩
  ·grind
  ·exact .inr ⟨g,cap,cur,J,h3,by rw[F g (by rw[J];rfl)];exact X,Y⟩
 ·refine .inr ⟨g,ms,?_,?_,GN A T 0 _ _ h3.1,h3.2⟩
  ·rw[A.loc k h.lt];exact h1
  ·rw[F g (by rw[h1];rfl)];exact E
def FR.keep{ρ:Env}{a:Act}(h:FR S w ρ a)(A:S.le S')(E:gZ S w w'):FR S' w' ρ a:=fun t F=>nS A E _ _ (h t F)
def FR.put{ρ:Env}{a:Act}(h:FR S w ρ a){d:Option Nat}{z:AV}{v:Value}(J:rep S w z v):FR S w (upd ρ d z) (a.put d v):=by
 intro t E;cases d with
 | none=>exact h t E
 | some d=>
  simp only[Act.put,upd]at E |-;have A:t<a.tmps.size:=by grind
  by_cases e:t=d
  ·simp_all
  ·have h1:=h t A;have F:d≠t:=fun h=>e h.symm
   simp only[if_neg e];have:(a.tmps.setIfInBounds d v).getD t undef=a.tmps.getD t undef:=by simp[Array.getD_eq_getD_getElem?,F]
   rw[this];exact h1
def Sg.addRow(S:Sg)(v:Value)(sz:Nat):Sg:={ S with loc:=fun k=>if k=S.N then v else S.loc k,sz:=fun k=>if k=S.N then sz else S.sz k,N:=S.N+1 }
def Sg.le_addRow(S:Sg)(v:Value)(sz:Nat):S.le (S.addRow v sz):=
 ⟨fun _ h=>h,Nat.le_succ _,fun k A=>by grind[Sg.addRow],fun k A=>by grind[Sg.addRow]⟩
def vK{k:Nat}{r:Option Row}:aH H k r k=r:=aB H k r
def St.newRow(O:St S w H){e:TypeId}{sz cap:Nat}{es:List (List AV)}{xs:List Value}{cur:Array Value}(ak:0<sz)(ah:∀cs∈es,cs.length=sz)
  (hr:bJ S w es.flatten xs) (h1:∀u∈xs,u.oneCell'=true) (hn:es.length<=cap) (aj:cap<=maxLen) (al:cur.size=cap*sz) (ae:cur.toList.take (es.length*sz)=xs) {w':World}
  (hw:w'.heap=w.heap.push (.cells cur e)) (an:w'.os=w.os) (ac:w'.tape=w.tape) (am:w'.output=w.output):
  St (S.addRow (.slice (some ⟨w.heap.size,0,none⟩) es.length cap) sz) w' (aH H S.N (some ⟨e,sz,es⟩))/\Grow S w (S.addRow (.slice (some ⟨w.heap.size,0,none⟩) es.length cap) sz) w':=by
 have U:∀k,k<w.heap.size->w'.heap[k]?=w.heap[k]?:=fun k E=>by grind
 have af:w'.heap[w.heap.size]?=some (.cells cur e (0,0)):=by grind
 have ao:w'.heap.size=w.heap.size+1:=by grind
 have ab:=S.le_addRow (.slice (some ⟨w.heap.size,0,none⟩) es.length cap) sz;have X:gZ S w w':=fun k E=>U k (O.fz_lt k (O.ro_fz k E))
 have A:(S.addRow (.slice (some ⟨w.heap.size,0,none⟩) es.length cap) sz).loc S.N=.slice (some ⟨w.heap.size,0,none⟩) es.length cap:=by simp[Sg.addRow]
 have Z:∀k,k<S.N->(S.addRow (.slice (some ⟨w.heap.size,0,none⟩) es.length cap) sz).loc k=S.loc k:=ab.loc;have J:∀k r,k≠S.N->aH H S.N (some ⟨e,sz,es⟩) k=some r->H k=some r:=fun k r E h=>by grind[aD]
 refine⟨⟨O.ro_fz,fun k E=>by have:=O.fz_lt k E;omega,?_,?_,?_,O.tabs.keep ab X⟩,⟨ab,fun _ h=>h,an,ac,am,by omega,fun k E=>U k (O.fz_lt k E),fun _ h=>.inl h⟩⟩
 ·intro k r E;by_cases e0:k=S.N
  ·subst e0;rw[vK]at E;injection E with E;subst E;refine⟨Nat.lt_succ_self _,by simp[Sg.addRow],ak,ah,.inl ⟨xs,⟨?_,.inr ⟨w.heap.size,cap,cur,A,Nat.zero_le _,af,hn,aj,al,ae⟩⟩,eG ab X _ _ hr,h1⟩⟩
   grind[iK,pE]
  ·have F:=J k r e0 E;exact(O.rows k r F).keep ab X fun g Y=>U g ((O.rows k r F).block_lt Y)
 ·intro k r E g Y;by_cases e0:k=S.N
  ·subst e0;rw[A]at Y;simp only[blk,Option.some.injEq]at Y;subst Y;exact fun h=>Nat.lt_irrefl _ (O.fz_lt _ h)
  ·have F:=J k r e0 E;rw[Z k (O.rows k r F).lt]at Y;exact O.free k r F g Y
 ·intro k k' r r' E F ag g Y T;by_cases e0:k=S.N
  ·subst e0;rw[A]at Y;simp only[blk,Option.some.injEq]at Y;subst Y;have aa:=J k' r' (Ne.symm ag) F;rw[Z k' (O.rows k' r' aa).lt]at T;exact Nat.lt_irrefl _ ((O.rows k' r' aa).block_lt T)
  ·have aa:=J k r e0 E;rw[Z k (O.rows k r aa).lt]at Y;by_cases e1:k'=S.N
   ·subst e1;rw[A]at T;simp only[blk,Option.some.injEq]at T;subst T;exact Nat.lt_irrefl _ ((O.rows k r aa).block_lt Y)
   ·have ai:=J k' r' e1 F;rw[Z k' (O.rows k' r' ai).lt]at T;exact O.disj k k' r r' aa ai ag g Y T
def St.newMap(J:St S w H){w':World}(hw:w'.heap=w.heap.push (.map #[] 0))(ah:w'.os=w.os)(ab:w'.tape=w.tape)(ag:w'.output=w.output):
  St (S.addRow (.map (some w.heap.size)) 2) w' (aH H S.N (some ⟨0,2,[]⟩))/\Grow S w (S.addRow (.map (some w.heap.size)) 2) w':=by
 have U:∀k,k<w.heap.size->w'.heap[k]?=w.heap[k]?:=fun k E=>by grind
 have ac:w'.heap[w.heap.size]?=some (.map #[] 0):=by grind
 have ai:w'.heap.size=w.heap.size+1:=by grind
 have X:=S.le_addRow (.map (some w.heap.size)) 2;have aa:gZ S w w':=fun k E=>U k (J.fz_lt k (J.ro_fz k E))
 have A:(S.addRow (.map (some w.heap.size)) 2).loc S.N=.map (some w.heap.size):=by simp[Sg.addRow]
 have O:∀k r,k≠S.N->aH H S.N (some ⟨0,2,[]⟩) k=some r->H k=some r:=fun k r E h=>by grind[aD]
 refine⟨⟨J.ro_fz,fun k E=>by have:=J.fz_lt k E;omega,?_,?_,?_,J.tabs.keep X aa⟩,⟨X,fun _ h=>h,ah,ab,ag,by omega,fun k E=>U k (J.fz_lt k E),fun _ h=>.inl h⟩⟩
 ·intro k r E;by_cases e0:k=S.N
  ·subst e0;rw[vK]at E;injection E with E;subst E;exact⟨Nat.lt_succ_self _,by simp[Sg.addRow],by simp,by simp,.inr ⟨w.heap.size,[],A,ac,by rfl,rfl⟩⟩
  ·have F:=O k r e0 E;exact(J.rows k r F).keep X aa fun g Y=>U g ((J.rows k r F).block_lt Y)
 ·intro k r E g Y;by_cases e0:k=S.N
  ·subst e0;rw[A]at Y;simp only[blk,Option.some.injEq]at Y;subst Y;exact fun h=>Nat.lt_irrefl _ (J.fz_lt _ h)
  ·have F:=O k r e0 E;rw[X.loc k (J.rows k r F).lt]at Y;exact J.free k r F g Y
 ·intro k k' r r' E F af g Y T;by_cases e0:k=S.N
  ·subst e0;rw[A]at Y;simp only[blk,Option.some.injEq]at Y;subst Y;have Z:=O k' r' (Ne.symm af) F;rw[X.loc k' (J.rows k' r' Z).lt]at T;exact Nat.lt_irrefl _ ((J.rows k' r' Z).block_lt T)
  ·have Z:=O k r e0 E;rw[X.loc k (J.rows k r Z).lt]at Y;by_cases e1:k'=S.N
   ·subst e1;rw[A]at T;simp only[blk,Option.some.injEq]at T;subst T;exact Nat.lt_irrefl _ ((J.rows k r Z).block_lt Y)
   ·have ae:=O k' r' e1 F;rw[X.loc k' (J.rows k' r' ae).lt]at T;exact J.disj k k' r r' Z ae af g Y T
def St.setMap(O:St S w H){k g:Nat}{r:Row}(hk:H k=some r)(hl:S.loc k=.map (some g)){ms:List MapEntry}{es:List (List AV)}(he:oC S w 0 es ms)(h2:r.sz=2)(ah:g<w.heap.size):
  St S { w with heap:=w.heap.setIfInBounds g (.map ms.toArray ms.length) } (aH H k (some { r with es:=es }))/\Grow S w S { w with heap:=w.heap.setIfInBounds g (.map ms.toArray ms.length) }:=by
 have hR:=O.rows k r hk;have Z:¬S.fz g:=O.free k r hk g (by rw[hl];rfl);have E:∀j,j≠g->(w.heap.setIfInBounds g (.map ms.toArray ms.length))[j]?=w.heap[j]?:=fun j A=>by grind
 have ac:(w.heap.setIfInBounds g (.map ms.toArray ms.length))[g]?=some (.map ms.toArray ms.length):=by grind
 have F:gZ S w { w with heap:=w.heap.setIfInBounds g (.map ms.toArray ms.length) }:=fun j A=>E j (fun e=>Z (e▸O.ro_fz j A))
 have p:∀j r',aH H k (some { r with es:=es }) j=some r'->∃X,H j=some X:=fun j r' A=>by grind[aD]
 have aa:∀(i:Nat) (es:List (List AV)) (ms:List MapEntry),oC S w i es ms->∀cs∈es,cs.length=2:=by
  intro i es;induction es generalizing i with
  | nil=>simp
  | cons c es ih=>
   intro ms h cs T;simp only[oC]at h;obtain⟨m,t,rfl,_,h4,h5⟩:=h;rcases List.mem_cons.1 T with rfl|T
   ·have:=iK _ _ h4;grind
   grind
 refine⟨⟨O.ro_fz,fun j A=>by simpa using O.fz_lt j A,?_,?_,?_,O.tabs.keep S.le_refl F⟩,⟨S.le_refl,fun _ h=>h,rfl,rfl,rfl,by simp,fun j A=>E j (fun e=>Z (e▸A)),fun _ h=>.inl h⟩⟩
 ·intro j r' A;by_cases e:j=k
  ·subst e;rw[vK]at A;injection A with A;subst A;exact⟨hR.lt,hR.sz,hR.pos,fun cs T=>(aa 0 es ms he cs T).trans h2.symm,.inr ⟨g,ms,hl,ac,GN S.le_refl F 0 _ _ he,h2⟩⟩
  ·rw[aD _ _ _ _ e]at A;exact(O.rows j r' A).keep S.le_refl F fun Y J=>E Y (fun e'=>O.disj j k r' r A hk e Y J (by rw[hl,e'];rfl))
 ·intro j r' A Y J;obtain⟨X,U⟩:=p j r' A;exact O.free j X U Y J
 ·intro j j' r1 r2 A U ab Y J af;obtain⟨q1,ae⟩:=p j r1 A;obtain⟨q2,ag⟩:=p j' r2 U;exact O.disj j j' q1 q2 ae ag ab Y J af
def St.nilRow(O:St S w H)(e:TypeId){sz:Nat}(aa:0<sz):
  St (S.addRow (.slice none 0 0) sz) w (aH H S.N (some ⟨e,sz,[]⟩))/\Grow S w (S.addRow (.slice none 0 0) sz) w:=by
 have F:=S.le_addRow (.slice none 0 0) sz;have T:(S.addRow (.slice none 0 0) sz).loc S.N=.slice none 0 0:=by simp[Sg.addRow]
 have A:∀k r,k≠S.N->aH H S.N (some ⟨e,sz,[]⟩) k=some r->H k=some r:=fun k r J h=>by grind[aD]
 refine⟨⟨O.ro_fz,O.fz_lt,?_,?_,?_,O.tabs.keep F (gZ.refl S w)⟩,⟨F,fun _ h=>h,rfl,rfl,rfl,Nat.le_refl _,fun _ _=>rfl,fun _ h=>.inl h⟩⟩
 ·intro k r J;by_cases U:k=S.N
  ·subst U;rw[vK]at J;injection J with J;subst J;refine⟨Nat.lt_succ_self _,by simp[Sg.addRow],aa,by simp,.inl ⟨[],⟨by simp,.inl ⟨T,rfl⟩⟩,by rfl,by simp⟩⟩
  ·have E:=A k r U J;exact(O.rows k r E).keep F (gZ.refl S w) fun _ _=>rfl
 ·intro k r J g X;by_cases U:k=S.N
  ·grind[blk]
  ·have E:=A k r U J;rw[F.loc k (O.rows k r E).lt]at X;exact O.free k r E g X
 ·intro k k' r r' J E ac g X Z;by_cases U:k=S.N
  ·grind[blk]
  ·have ab:=A k r U J;rw[F.loc k (O.rows k r ab).lt]at X;by_cases e1:k'=S.N
   ·grind[blk]
   ·have Y:=A k' r' e1 E;rw[F.loc k' (O.rows k' r' Y).lt]at Z;exact O.disj k k' r r' ab Y ac g X Z
def Sg.addRo(S:Sg)(g:Nat):Sg:={ S with ro:=fun k=>S.ro k\/k=g,fz:=fun k=>S.fz k\/k=g }
def Sg.le_addRo(S:Sg)(g:Nat):S.le (S.addRo g):=⟨fun _ h=>.inl h,Nat.le_refl _,fun _ _=>rfl,fun _ _=>rfl⟩
def St.newRo(F:St S w H){o:Obj}{w':World}(hw:w'.heap=w.heap.push o)(Z:w'.os=w.os)(O:w'.tape=w.tape)(X:w'.output=w.output):
  St (S.addRo w.heap.size) w' H/\Grow S w (S.addRo w.heap.size) w':=by
 have E:∀k,k<w.heap.size->w'.heap[k]?=w.heap[k]?:=fun k A=>by grind
 have aa:w'.heap.size=w.heap.size+1:=by grind
 have T:=S.le_addRo w.heap.size;have J:gZ S w w':=fun k A=>E k (F.fz_lt k (F.ro_fz k A))
 refine⟨⟨fun k A=>A.imp (F.ro_fz k) id,fun k A=>?_,fun k r A=>(F.rows k r A).keep T J fun g Y=>E g ((F.rows k r A).block_lt Y),fun k r A g Y U=>?_,F.disj,F.tabs.keep T J⟩,
  ⟨T,fun _ h=>.inl h,Z,O,X,by omega,fun k A=>E k (F.fz_lt k A),fun k A=>A.imp id (fun e U=>by have:=F.fz_lt k U;omega)⟩⟩
 ·rcases A with A|A
  ·have:=F.fz_lt k A;omega
  ·omega
 ·rcases U with U|U
  ·exact F.free k r A g Y U
  ·have:=(F.rows k r A).block_lt Y;omega
def RowOK.open{k:Nat}{r:Row}(h:RowOK S w k r){A:Option Addr}{T J:Nat}(E:S.loc k=.slice A T J)(O:r.es≠[]):∃g cap cur,S.loc k=.slice (some ⟨g,0,none⟩) r.es.length cap/\w.heap[g]?=some (.cells cur r.e (0,0))/\r.es.length<=cap/\cap<=maxLen/\cur.size=cap*r.sz /\
  bJ S w r.es.flatten (cur.toList.take (r.es.length*r.sz))/\∀u∈cur.toList.take (r.es.length*r.sz),u.oneCell'=true:=by
 obtain⟨xs,F,Z,h1⟩:=h.sl E;rcases F.2 with⟨_,hn⟩|⟨g,cap,cur,Y,_,X,h3,h4,h5,U⟩
 all_goals grind
def BV:∀(es:List (List AV)) (i:Nat) (cs:List AV) {sz:Nat},(∀c∈es,c.length=sz)->i<es.length->cs.length=sz ->
  (es.set i cs).flatten=es.flatten.take (i*sz)++cs++es.flatten.drop (i*sz+sz)
 | [],_,_,_,_,h,_=>by grind
 | x::r,0,cs,sz,hl,_,A=>by grind
 | x::r,i+1,cs,sz,hl,hi,A=>by
  have F:=hl x (by simp);have ih:=BV r i cs (fun c A=>hl c (by simp[A])) (by simpa using hi) A;simp only[List.set_cons_succ,List.flatten_cons,ih];have E:(i+1)*sz=x.length+i*sz:=by rw[F,Nat.add_mul];omega
  rw[E,Nat.add_assoc,List.take_append,List.drop_append];simp[List.take_of_length_le,List.drop_eq_nil_of_le]
def St.store(O:St S w H){k:Nat}{r:Row}(hk:H k=some r){i f:Nat}{cs:List AV}{l:List Value}(hi:i<r.es.length)(hf:f+cs.length<=r.sz){am:Option Addr}{n0 c0:Nat}(ah:S.loc k=.slice am n0 c0)
   (hr:bJ S w cs l) (h1:∀u∈l,u.oneCell'=true):
   ∃g n c w',S.loc k=.slice (some ⟨g,0,none⟩) n c/\(∀P:Program,(storeCells ⟨g,i*r.sz+f,none⟩ l).run P w=.ok () w') /\
     St S w' (aH H k (some { r with es:=r.es.set i (oY (r.es.getD i []) f cs) }))/\Grow S w S w':=by
 have U:=O.rows k r hk;have aj:r.es≠[]:=fun e=>by grind
 obtain⟨g,cap,cur,F,hg,aq,ak,aw,Z,av⟩:=U.open ah aj;have ax:=iK _ _ hr;have ac:(i+1)*r.sz<=r.es.length*r.sz:=Nat.mul_le_mul_right _ hi;have ai:r.es.length*r.sz<=cap*r.sz:=Nat.mul_le_mul_right _ aq;rw[Nat.add_mul,Nat.one_mul]at ac;have ae:∀P:Program,_:=fun P=>run_storeCells_at (P:=P) g (i*r.sz+f) r.e l 0 cur w hg (by omega) h1
 simp only[Nat.add_zero]at ae;refine⟨g,_,cap,_,F,ae,?_,?_⟩
 . have T:∀j,j≠g->(w.setRow g (List.take (i*r.sz+f) cur.toList++l++List.drop (i*r.sz+f+l.length) cur.toList).toArray).heap[j]?=w.heap[j]?:=fun j A=>setRow_other w g j _ A
   have an:¬S.fz g:=O.free k r hk g (by rw[F];rfl);have E:gZ S w (w.setRow g (List.take (i*r.sz+f) cur.toList++l++List.drop (i*r.sz+f+l.length) cur.toList).toArray):=fun j A=>T j (fun e=>an (e▸O.ro_fz j A))
   have af:(r.es.getD i []).length=r.sz:=by simp only[List.getD,List.getElem?_eq_getElem hi,Option.getD_some];exact U.len _ (List.getElem_mem hi)
   have Y:(oY (r.es.getD i []) f cs).length=r.sz:=by grind[oY]
   have e2 : List.take (r.es.length * r.sz) (List.take (i * r.sz + f) cur.toList ++ l ++ List.drop (i * r.sz + f + l.length) cur.toList) =
       (cur.toList.take (r.es.length*r.sz)).take (i*r.sz+f)++l++(cur.toList.take (r.es.length*r.sz)).drop (i*r.sz+f+l.length):=by
     rw[List.take_take,Nat.min_eq_left (by omega),List.drop_take];rw[List.take_append,List.take_append];simp only[List.length_append,List.length_take,Array.length_toList];rw[Nat.min_eq_left (by omega:i*r.sz+f<=cur.size)]
     grind[List.take_of_length_le]
   refine⟨O.ro_fz,fun j A=>by simpa using O.fz_lt j A,?_,?_,?_,O.tabs.keep S.le_refl E⟩
   . intro j r' A;by_cases e:j=k
     . subst e;rw[vK]at A;injection A with A;subst A;refine⟨U.lt,U.sz,U.pos,?_,.inl ?_⟩
       . intro c hc;rcases List.mem_or_eq_of_mem_set hc with hc|rfl
         . exact U.len c hc
         omega
       . refine⟨(List.take (i*r.sz+f) cur.toList++l++List.drop (i*r.sz+f+l.length) cur.toList).take (r.es.length*r.sz),⟨?_,.inr ⟨g,cap,_,by grind,Nat.zero_le _,setRow_heap w g cur _ _ _ hg,by grind,ak,?_,by simp⟩⟩,?_,?_⟩
         . grind
         . simp_all;omega
         . have hx:=(eG (S.le_refl) E _ _ Z);have hy:=(eG (S.le_refl) E _ _ hr);have e1:(r.es.set i (oY (r.es.getD i []) f cs)).flatten=r.es.flatten.take (i*r.sz+f)++cs++r.es.flatten.drop (i*r.sz+f+l.length):=by
             rw[BV r.es i _ U.len hi Y];have au:r.es.flatten.length=r.es.length*r.sz:=pE _ U.len;have ab:r.es.getD i []=(r.es.flatten.drop (i*r.sz)).take r.sz:=by
               have h0:=BV r.es i (r.es.getD i []) U.len hi af;have hs:r.es.set i (r.es.getD i [])=r.es:=by simp_all
               rw[hs]at h0;have h3:(r.es.flatten.drop (i*r.sz)).take r.sz=((r.es.flatten.take (i*r.sz)++r.es.getD i []++r.es.flatten.drop (i*r.sz+r.sz)).drop (i*r.sz)).take r.sz:=by grind
               rw[h3,List.append_assoc,List.drop_append_of_le_length (by rw[List.length_take];omega)]
               grind
             rw[ab,oY];have a1:List.take (i*r.sz+f) r.es.flatten=r.es.flatten.take (i*r.sz)++((r.es.flatten.drop (i*r.sz)).take r.sz).take f:=by rw[List.take_take,Nat.min_eq_left (by omega),List.take_add]
             grind[List.drop_take,List.drop_drop,List.take_append_drop]
           grind[eV,vN,vE]
         grind
     . rw[aD _ _ _ _ e]at A;exact(O.rows j r' A).keep S.le_refl E fun X J=>T X (fun e'=>O.disj j k r' r A hk e X J (by rw[F,e'];rfl))
   . intro j r' A X J;by_cases e:j=k
     . subst e;exact O.free j r hk X J
     . rw[aD _ _ _ _ e]at A;exact O.free j r' A X J
   . intro j j' r1 r2 A ao aa X J ap;have p:∀j r',aH H k (some { r with es:=r.es.set i (oY (r.es.getD i []) f cs) }) j=some r'->∃ar,H j=some ar:=fun j r' A=>by grind[aD]
     obtain⟨q1,ag⟩:=p j r1 A;obtain⟨q2,al⟩:=p j' r2 ao;exact O.disj j j' q1 q2 ag al aa X J ap
 . refine⟨S.le_refl,fun _ h=>h,rfl,rfl,rfl,by simp,fun j A=>setRow_other w g j _ (fun e=>O.free k r hk g (by rw[F];rfl) (e▸A)),fun _ h=>.inl h⟩
end
end Go.Aw
end
section
namespace Go.Aw
open Go.RowKit
section
variable{P:Program}{S S':Sg}{w w':World}{H H':aG}
def xT(S:Sg)(w:World)(u:Value)(news:List (List AV)):Prop:=
 ∃ad c l,u=.slice ad news.length c/\bJ S w news.flatten l/\(∀x∈l,x.oneCell'=true) /\
   (news=[]\/∃b o,ad=some ⟨b,o,none⟩/\∀j x,l[j]?=some x->w.cell? ⟨b,o+j,none⟩=some x)
theorem Gy{es:List (List AV)}{u:Value}(h:rep S w (.sl es) u):xT S w u es:=by
 simp only[rep]at h;obtain⟨ad,n,c,rfl,rfl,_,_,E⟩:=h;rcases E with rfl|⟨b,o,sz,rfl,T,X,A⟩
 ·exact⟨ad,c,[],rfl,by rfl,by simp,.inl rfl⟩
 ·obtain⟨l,U,O,J,F⟩:=oD _ _ (Bc es o A);exact⟨_,c,l,rfl,O,J,.inr ⟨b,o,rfl,F⟩⟩
def FS{k:Nat}{r:Row}(h:RowOK S w k r){Y:Option Addr}{Z U:Nat}(X:S.loc k=.slice Y Z U):xT S w (S.loc k) r.es:=by
 obtain⟨xs,E,F,h1⟩:=h.sl X;rcases E.2 with⟨A,J⟩|⟨g,cap,cur,A,_⟩
 ·have O:=List.eq_nil_of_length_eq_zero J;have hx:xs=[]:=List.eq_nil_of_length_eq_zero (by rw[E.1,J];simp);exact⟨none,0,xs,by grind,F,h1,.inl O⟩
 ·refine⟨some ⟨g,0,none⟩,cap,xs,A,F,h1,.inr ⟨g,0,rfl,fun j x T=>?_⟩⟩;have:=E.cells (g:=g) (by rw[A];rfl) j x T
  grind[Addr.add_lit]
def BM{k a b:Nat}{r:Row}{u:Value}(X:RowOK S w k r)(hu:rep S w (.oz k a b) u):xT S w u ((r.es.take b).drop a)/\b<=r.es.length/\a<=b:=by
 simp only[rep]at hu;obtain⟨_,ad,n,c,Z,cc,A,rfl,U,aa,T,_,ab,_⟩:=hu;obtain⟨xs,ho,hr,h1⟩:=X.sl A;have hn:n=r.es.length:=by
  rcases ho.2 with⟨hv,hn⟩|⟨g,cap,cur,hv,_⟩
  all_goals grind
 subst hn;refine⟨?_,aa,U⟩;have E:((r.es.take b).drop a).length=b-a:=by grind
 rcases Nat.lt_or_ge a b with ae|ac
 ·obtain⟨g,rfl,rfl⟩:=T (by omega);have Y:r.es≠[]:=fun e=>by grind
  obtain⟨g',n',c',O,J,_⟩:=X.els A Y;rw[A]at O;injection O with F _ _;injection F with F;injection F with F;subst F;have h2:=DQ _ 0 a (AD r.es 0 b J);rw[Nat.zero_add,X.sz]at h2;obtain⟨l,q1,q2,q3,q4⟩:=oD _ _ (Bc _ _ h2);exact⟨_,cc,l,by rw[E],q2,q3,.inr ⟨g,a*S.sz k,rfl,q4⟩⟩
 ·have he:(r.es.take b).drop a=[]:=List.eq_nil_of_length_eq_zero (by omega);exact⟨Z,cc,[],by rw[E],by grind[bJ],by simp,.inl he⟩
def As:∀(es:List (List AV)) (a:Nat) {sz:Nat},(∀c∈es,c.length=sz)->(es.take a).flatten=es.flatten.take (a*sz)
 | [],_,_,_=>by simp
 | x::r,0,_,_=>by simp
 | x::r,a+1,sz,hl=>by simp_all[As,Nat.add_mul,List.take_append,List.take_of_length_le]
def AF:∀(es:List (List AV)) (a:Nat) {sz:Nat},(∀c∈es,c.length=sz)->(es.drop a).flatten=es.flatten.drop (a*sz)
 | [],_,_,_=>by simp
 | x::r,0,_,_=>by simp
 | x::r,a+1,sz,hl=>by simp_all[AF,Nat.add_mul,List.drop_append]
def St.storeE(O:St S w H){k:Nat}{r:Row}(Z:H k=some r){a:Nat}{news:List (List AV)}{l:List Value}(av:∀c∈news,c.length=r.sz)(ha:a+news.length<=r.es.length)(ab:r.es≠[]){aq:Option Addr}{n0 c0:Nat}(aj:S.loc k=.slice aq n0 c0)
   (hr:bJ S w news.flatten l) (h1:∀u∈l,u.oneCell'=true):
   ∃g n c w',S.loc k=.slice (some ⟨g,0,none⟩) n c/\(∀P:Program,(storeCells ⟨g,a*r.sz,none⟩ l).run P w=.ok () w') /\
     St S w' (aH H k (some { r with es:=r.es.take a++news++r.es.drop (a+news.length) }))/\Grow S w S w':=by
 have X:=O.rows k r Z;obtain⟨g,cap,cur,F,hg,ao,an,ax,aa,aw⟩:=X.open aj ab;have ai:l.length=news.length*r.sz:=by grind[iK,pE]
 have ae:(a+news.length)*r.sz<=r.es.length*r.sz:=Nat.mul_le_mul_right _ ha;have ak:r.es.length*r.sz<=cap*r.sz:=Nat.mul_le_mul_right _ ao;rw[Nat.add_mul]at ae;have af:∀P:Program,_:=fun P=>run_storeCells_at (P:=P) g (a*r.sz) r.e l 0 cur w hg (by omega) h1
 simp only[Nat.add_zero]at af;refine⟨g,_,cap,_,F,af,?_,?_⟩
 . have T:∀j,j≠g->(w.setRow g (List.take (a*r.sz) cur.toList++l++List.drop (a*r.sz+l.length) cur.toList).toArray).heap[j]?=w.heap[j]?:=fun j A=>setRow_other w g j _ A
   have ah:¬S.fz g:=O.free k r Z g (by rw[F];rfl);have E:gZ S w (w.setRow g (List.take (a*r.sz) cur.toList++l++List.drop (a*r.sz+l.length) cur.toList).toArray):=fun j A=>T j (fun e=>ah (e▸O.ro_fz j A))
   have au:(r.es.take a++news++r.es.drop (a+news.length)).length=r.es.length:=by grind
   have e2 : List.take (r.es.length * r.sz) (List.take (a * r.sz) cur.toList ++ l ++ List.drop (a * r.sz + l.length) cur.toList) =
       (cur.toList.take (r.es.length*r.sz)).take (a*r.sz)++l++(cur.toList.take (r.es.length*r.sz)).drop (a*r.sz+l.length):=by
     rw[List.take_take,Nat.min_eq_left (by omega),List.drop_take];rw[List.take_append,List.take_append]
     grind[List.take_of_length_le]
   refine⟨O.ro_fz,fun j A=>by simpa using O.fz_lt j A,?_,?_,?_,O.tabs.keep S.le_refl E⟩
   . intro j r' A;by_cases e:j=k
     . subst e;rw[vK]at A;injection A with A;subst A;refine⟨X.lt,X.sz,X.pos,?_,.inl ?_⟩
       . intro c U;rcases List.mem_append.1 U with U|U
         . rcases List.mem_append.1 U with U|U
           . exact X.len c (List.mem_of_mem_take U)
           grind
         . exact X.len c (List.mem_of_mem_drop U)
       . refine⟨(List.take (a*r.sz) cur.toList++l++List.drop (a*r.sz+l.length) cur.toList).take (r.es.length*r.sz),⟨?_,.inr ⟨g,cap,_,by grind,Nat.zero_le _,setRow_heap w g cur _ _ _ hg,by grind,an,?_,by rw[au]⟩⟩,?_,?_⟩
         . grind
         . simp only[List.size_toArray,List.length_append,List.length_take,List.length_drop,Array.length_toList];omega
         . have hx:=(eG (S.le_refl) E _ _ aa);have hy:=(eG (S.le_refl) E _ _ hr);have e1:(r.es.take a++news++r.es.drop (a+news.length)).flatten=r.es.flatten.take (a*r.sz)++news.flatten++r.es.flatten.drop (a*r.sz+l.length):=by rw[List.flatten_append,List.flatten_append,As _ _ X.len,AF _ _ X.len,Nat.add_mul,ai]
           grind[eV,vN,vE]
         grind
     . rw[aD _ _ _ _ e]at A;exact(O.rows j r' A).keep S.le_refl E fun Y J=>T Y (fun e'=>O.disj j k r' r A Z e Y J (by rw[F,e'];rfl))
   . intro j r' A Y J;by_cases e:j=k
     . subst e;exact O.free j r Z Y J
     . rw[aD _ _ _ _ e]at A;exact O.free j r' A Y J
   . intro j j' r1 r2 A al ac Y J am;have p:∀j r',aH H k (some { r with es:=r.es.take a++news++r.es.drop (a+news.length) }) j=some r'->∃ar,H j=some ar:=fun j r' A=>by grind[aD]
     obtain⟨q1,ag⟩:=p j r1 A;obtain⟨q2,ap⟩:=p j' r2 al;exact O.disj j j' q1 q2 ag ap ac Y J am
 . refine⟨S.le_refl,fun _ h=>h,rfl,rfl,rfl,by simp,fun j A=>setRow_other w g j _ (fun e=>O.free k r Z g (by rw[F];rfl) (e▸A)),fun _ h=>.inl h⟩
theorem Yk{k:Nat}{r:Row}(A:H k=some r):aH H k (some r)=H:=by grind[aB,aD]
def St.copy(hS:St S w H){k:Nat}{r:Row}(hk:H k=some r){t e sz J:Nat}{t' ty:TypeId}(he:cA P t=some (e,sz,J))(au:r.sz=sz){a n:Nat}(am:a+n<=r.es.length){x u:Value}{news:List (List AV)}(hu:xT S w u news)(U:cQ sz news)
  (hx:∃ad cc,x=.slice ad n cc/\(0<n->∃g n' c',S.loc k=.slice (some ⟨g,0,none⟩) n' c'/\ad=some ⟨g,a*r.sz,none⟩)):
  ∃w',(Builtin.copy_ #[t,t'] ty #[x,u]).run P w=.ok (goInt (min news.length n:Nat)) w'/\St S w' (aH H k (some { r with es:=r.es.take a++news.take (min news.length n)++r.es.drop (a+min news.length n) }))/\Grow S w S w':=by
 obtain⟨ak,z,af,hi,ai,av,aj,ab,hz,aq⟩:=gM he;obtain⟨ad,cc,rfl,Z⟩:=hx;obtain⟨sa,sc,l,rfl,hl,ac,F⟩:=hu;have O:=iT.1 U;rcases Nat.eq_zero_or_pos (min news.length n)with h0|h0
 ·refine⟨w,?_,?_,Grow.refl S w⟩
  ·have aa:Nat.min news.length n=0:=h0;have ah:∀a:Addr,(loadCells a 0).run P w=.ok #[] w:=fun a=>by rfl
   rw[h0];cases ad <;> cases sa <;> simp[Builtin.copy_,run_underlying af,Builtin.lenOf,Builtin.firstCells,sizeOf,typeInfo,hi,aa,ah,storeCells]
  ·rw[h0];have:({ r with es:=r.es.take a++news.take 0++r.es.drop (a+0) }:Row)=r:=by simp
   grind[Yk]
 ·have ag:0<n:=by omega
  obtain⟨g,n',c',E,rfl⟩:=Z ag;have T:r.es≠[]:=fun e=>by grind
  have hm:(news.take (min news.length n)).length=min news.length n:=by simp
  have ao:(news.take (min news.length n)).flatten=news.flatten.take (min news.length n*sz):=As _ _ O;have ae:bJ S w (news.take (min news.length n)).flatten (l.take (min news.length n*sz)):=by grind[vN]
  obtain⟨g',n2,c2,w',A,an,q1,q2⟩:=hS.storeE hk (a:=a) (news:=news.take (min news.length n)) (l:=l.take (min news.length n*sz)) (fun c hc=>by grind) (by omega) T E ae (fun u hu=>ac u (List.mem_of_mem_take hu));rw[E]at A;injection A with X _ _;injection X with X;injection X with X;subst X;rw[hm]at q1;refine⟨w',?_,q1,q2⟩;rcases F with F|⟨b,o,rfl,Y⟩
  ·grind
  ·have ap:l.length=news.length*sz:=by grind[iK,pE]
   have ar:(l.take (min news.length n*sz)).length=min news.length n*sz:=by simp_all
   have al:=run_loadCells_list (P:=P) w ⟨b,o,none⟩ (l.take (min news.length n*sz)) (fun j v hj=>by grind[Addr.add_lit]);simp_all[Builtin.copy_,run_underlying,Builtin.lenOf,Builtin.firstCells,sizeOf,typeInfo]
def Cg(z:Array Value)(A:0<z.size):∀m,(Builtin.zeroCells z m).toList=(List.replicate m z.toList).flatten
 | 0=>by simp[Builtin.zeroCells]
 | m+1=>by
  have ih:=Cg z A m;rw[show List.replicate (m+1) z.toList=List.replicate m z.toList++[z.toList]from List.replicate_succ',List.flatten_append,<-ih];simp only[Builtin.zeroCells,Array.toList_map,Array.toList_range,Nat.add_mul,Nat.one_mul,List.flatten_cons,List.flatten_nil,List.append_nil];rw[List.range_add,List.map_append]
  congr 1
  apply List.ext_getElem
  all_goals simp_all[Nat.mod_eq_of_lt]
def St.clear(hS:St S w H){k:Nat}{r:Row}(hk:H k=some r){t e sz O:Nat}{ty:TypeId}{zs:List AV}(he:cA P t=some (e,sz,O))(Z:dH P e=some zs)(aj:r.sz=sz){a n:Nat}(ah:a+n<=r.es.length){x:Value}
  (hx:∃ad cc,x=.slice ad n cc/\(0<n->∃g n' c',S.loc k=.slice (some ⟨g,0,none⟩) n' c'/\ad=some ⟨g,a*r.sz,none⟩)):
  ∃w',(Builtin.clear_ #[t] ty #[x]).run P w=.ok (.tuple #[]) w'/\St S w' (aH H k (some { r with es:=r.es.take a++List.replicate n zs++r.es.drop (a+n) }))/\Grow S w S w':=by
 obtain⟨ag,z,aa,hi,ac,al,ae,ab,hz,af⟩:=gM he;obtain⟨i',v,F,E,rfl,ak,ai,h1⟩:=pL Z;rw[hi]at F;injection F with F;subst F;rw[hz]at E;injection E with E;subst E;obtain⟨ad,cc,rfl,Y⟩:=hx;rcases Nat.eq_zero_or_pos n with h0|h0
 ·subst h0;refine⟨w,?_,?_,Grow.refl S w⟩
  ·cases ad <;> simp[Builtin.clear_,run_underlying aa]
  ·have:({ r with es:=r.es.take a++List.replicate 0 (z.cells.toList.map tK)++r.es.drop (a+0) }:Row)=r:=by simp
   grind[Yk]
 ·obtain⟨g,n',c',J,rfl⟩:=Y h0;have U:r.es≠[]:=fun e=>by grind
  have T:∀m,bJ S w (List.replicate m (z.cells.toList.map tK)).flatten (List.replicate m z.cells.toList).flatten:=by intro m;induction m<;>grind[bJ,eV,oE]
  obtain⟨g',n2,c2,w',A,am,q1,q2⟩:=hS.storeE hk (a:=a) (news:=List.replicate n (z.cells.toList.map tK)) (l:=(List.replicate n z.cells.toList).flatten) (fun c hc=>by grind) (by grind) U J (T n) (fun u hu=>by simp_all;grind);rw[J]at A;injection A with X _ _;injection X with X;injection X with X;subst X;rw[List.length_replicate]at q1;refine⟨w',?_,q1,q2⟩;obtain⟨m,rfl⟩:∃m,n=m+1:=⟨n-1,by omega⟩;simp_all[Builtin.clear_,run_underlying,zeroValue,typeInfo,Cg]
theorem F9{t ty e:TypeId}{i:TypeInfo}{size n c:Nat}{v:Value}{xs:List Value}(F:P.underlying t=some (.slice e))(J:P.info? e=some i)(A:w.ownsRow 0 e size v n xs):
  (Builtin.append_ #[t,t] ty #[v,.slice none 0 c]).run P w=.ok v w:=by
 rcases A.2 with⟨rfl,rfl⟩|⟨g,cap,cur,rfl,_,_,E,_⟩
 ·simp[Builtin.append_,run_underlying F,sizeOf,typeInfo,J,Builtin.lenOf,Builtin.firstCells]
 ·simp[Builtin.append_,run_underlying F,sizeOf,typeInfo,J,Builtin.lenOf,Builtin.firstCells,E,storeCells]
def wJ{t ty e:TypeId}{i:TypeInfo}{n c c2:Nat}{b ad:Option Addr}(F:P.underlying t=some (.slice e))(J:P.info? e=some i)(E:n<=c):
  (Builtin.append_ #[t,t] ty #[.slice b n c,.slice ad 0 c2]).run P w=.ok (.slice b n c) w:=by
 have A:(Builtin.firstCells i.size 0 (.slice ad 0 c2)).run P w=.ok #[] w:=by
  cases ad with
  | none=>rfl
  | some a=>exact run_firstCells_some (P:=P) w i.size 0 a 0 c2 [] (by simp) (by simp)
 cases b <;> simp[Builtin.append_,run_underlying F,sizeOf,typeInfo,J,Builtin.lenOf,A,E,storeCells]
def St.append(O:St S w H){k:Nat}{r:Row}(hk:H k=some r){aq:Option Addr}{n0 c0:Nat}(ao:S.loc k=.slice aq n0 c0){t ty:TypeId}{U:Nat}(he:cA P t=some (r.e,r.sz,U)){news:List (List AV)}{u:Value}(hu:xT S w u news)
   (al:cQ r.sz news) (hb:(r.es.length+news.length)*U<=140737488355328):
   ∃E w',(Builtin.append_ #[t,t] ty #[S.loc k,u]).run P w=.ok E w'/\(∃a n c,E=.slice a n c) /\
     St (S.addRow E r.sz) w' (aH (aH H k none) S.N (some ⟨r.e,r.sz,r.es++news⟩))/\Grow S w (S.addRow E r.sz) w':=by
 have hR:=O.rows k r hk;obtain⟨an,z,ax,hi,aw,az,ag,ah,hz,au⟩:=gM he;obtain⟨xs,ho,hr,h1⟩:=hR.sl ao;obtain⟨ad,c,l,rfl,hl,av,a0⟩:=hu;have ay:=iT.1 al;have ar:l.length=news.length*r.sz:=by grind[iK,pE]
 have a5:r.es.length+news.length<=140737488355328:=Nat.le_trans (Nat.le_mul_of_pos_right _ ah) hb;have ap : ∃ E w', (Builtin.append_ #[t, t] ty #[S.loc k, .slice ad news.length c]).run P w = .ok E w' /\ w'.ownsRow 0 r.e r.sz E (r.es.length + news.length) (xs ++ l) /\ w.grownBy w' (blk (S.loc k)) /\
     (blk E=blk (S.loc k)\/blk E=some w.heap.size):=by
   cases ad with
   | none=>
     have hn:news=[]:=by grind
     subst hn;have a6:l=[]:=List.eq_nil_of_length_eq_zero (by grind)
     grind[F9,World.grownBy.refl]
   | some a=>
     have ae:∀j x,l[j]?=some x->w.cell? (a.add j)=some x:=by grind[Addr.add_lit]
     obtain⟨E,w',q1,q2,q3,_,q5⟩:=run_append_own_at (P:=P) w 0 t ty r.e an z r.sz U ax hi hz aw az au ag (S.loc k) r.es.length xs ho a news.length c l ar ae av
       (by grind[maxLen]) hb (Nat.zero_le _)
     have a8:blk (S.loc k)=(S.loc k).ownBlock:=by grind[azD]
     have a7:blk E=E.ownBlock:=by rcases q2.2 with⟨h,_⟩|⟨_,_,_,h,_⟩ <;> (rw[h];rfl)
     grind
 obtain⟨E,w',q1,q2,q3,q4⟩:=ap;have ai:=O.free k r hk;have Z:∀j,S.fz j->w'.heap[j]?=w.heap[j]?:=fun j F=>q3.block j (O.fz_lt j F) (fun e=>ai j e.symm F)
 have ab:gZ S w w':=O.kept Z;have T:=S.le_addRow E r.sz;have aa:(S.addRow E r.sz).loc S.N=E:=by simp[Sg.addRow]
 have am:∀g,blk E=some g->¬S.fz g:=fun g A hf=>by
   rcases q4 with e|e
   . grind
   . rw[e]at A;injection A with A;subst A;exact Nat.lt_irrefl _ (O.fz_lt _ hf)
 have J:∀j r',j≠S.N->aH (aH H k none) S.N (some ⟨r.e,r.sz,r.es++news⟩) j=some r'->j≠k/\H j=some r':=fun j r' F h=>by grind[aD,aB]
 have af:∀j r',j≠k->H j=some r'->∀g,blk (S.loc j)=some g->some g≠blk (S.loc k)/\g<w.heap.size:=fun j r' F X g A=>⟨fun e=>O.disj j k r' r X hk F g A e.symm,(O.rows j r' X).block_lt A⟩
 have a4:∀j r',j≠k->H j=some r'->∀g,blk (S.loc j)=some g->blk E≠some g:=fun j r' F X g A e=>by grind
 refine⟨E,w',q1,?_,⟨O.ro_fz,fun j F=>Nat.lt_of_lt_of_le (O.fz_lt j F) q3.size,?_,?_,?_,O.tabs.keep T ab⟩,⟨T,fun _ h=>h,q3.os,q3.tape,q3.output,q3.size,Z,fun _ h=>.inl h⟩⟩
 . rcases q2.2 with⟨h,_⟩|⟨g,cap,cur,h,_⟩
   all_goals grind
 . intro j r' F;by_cases e:j=S.N
   . subst e;rw[aB]at F;injection F with F;subst F;refine⟨Nat.lt_succ_self _,by simp[Sg.addRow],ag,?_,.inl ⟨xs++l,?_,?_,?_⟩⟩
     . intro cs ac;rcases List.mem_append.1 ac with ac|ac
       . exact hR.len cs ac
       grind
     all_goals grind[eV,eG]
   . obtain⟨e1,Y⟩:=J j r' e F;exact(O.rows j r' Y).keep T ab fun g A=>q3.block g (af j r' e1 Y g A).2 (af j r' e1 Y g A).1
 . intro j r' F g A;by_cases e:j=S.N
   . subst e;rw[aa]at A;exact am g A
   . obtain⟨e1,Y⟩:=J j r' e F;rw[T.loc j (O.rows j r' Y).lt]at A;exact O.free j r' Y g A
 . intro j j' r1 r2 F X ak g A aj;by_cases e:j=S.N
   . subst e;rw[aa]at A;obtain⟨e1,Y⟩:=J j' r2 (Ne.symm ak) X;rw[T.loc j' (O.rows j' r2 Y).lt]at aj
     grind
   . obtain⟨e1,Y⟩:=J j r1 e F;rw[T.loc j (O.rows j r1 Y).lt]at A;by_cases e':j'=S.N
     . grind
     . obtain⟨e3,e4⟩:=J j' r2 e' X;rw[T.loc j' (O.rows j' r2 e4).lt]at aj;exact O.disj j j' r1 r2 Y e4 ak g A aj
def OI{es:List (List AV)}{ad:Option Addr}{n:Nat}(h:rep S w (.cl es) (.slice ad n n)){sz:Nat}(Y:cQ sz es):
  ∃l,l.length=es.length*sz/\bJ S w es.flatten l/\(∀x∈l,x.oneCell'=true)/\n=es.length/\n<=maxLen/\(es=[]\/∃b o,ad=some ⟨b,o,none⟩/\∀j x,l[j]?=some x->w.cell? ⟨b,o+j,none⟩=some x):=by
 simp only[rep]at h;obtain⟨T,n',e,rfl,hm,J⟩:=h;injection e with E F O;subst E F;rcases J with rfl|⟨b,o,U,rfl,X,hs,A⟩
 ·simp[bJ]
 ·obtain⟨l,E,F,O,Z⟩:=oD _ _ (Bc es o A)
  grind[pE,iT]
def aaZ{g:Nat}{cur:Array Value}{e:TypeId}{j:Nat}(h:w.heap[g]?=some (.cells cur e (0,0)))(A:j<cur.size):(w.cell? ⟨g,j,none⟩).isSome=true:=by simp[World.cell?,h,A]
def UB{g:Nat}{cur:Array Value}{e:TypeId}{j:Nat}(h:w.heap[g]?=some (.cells cur e (0,0))):w.frozen? ⟨g,j,none⟩=false:=by simp[World.frozen?,h]
def St.drop'{H':aG}(h:St S w H)(E:∀k r,H' k=some r->H k=some r):St S w H':=
 ⟨h.ro_fz,h.fz_lt,fun k r A=>h.rows k r (E k r A),fun k r A=>h.free k r (E k r A),fun k k' r r' A F=>h.disj k k' r r' (E k r A) (E k' r' F),h.tabs⟩
def St.newOwned(U:St S w H){e:TypeId}{sz:Nat}{es':List (List AV)}{vals:List Value}{v':Value}{w':World}(ae:0<sz)(af:∀cs∈es',cs.length=sz)(ag:0<es'.length)
  (q2:w'.ownsRow w.heap.size e sz v' es'.length vals) (q3:w.grownBy w' none) (hr:bJ S w es'.flatten vals) (h1:∀x∈vals,x.oneCell'=true):
  (∃a n c,v'=.slice a n c)/\St (S.addRow v' sz) w' (aH H S.N (some ⟨e,sz,es'⟩))/\Grow S w (S.addRow v' sz) w'/\∃g cap,v'=.slice (some ⟨g,0,none⟩) es'.length cap/\es'.length<=cap:=by
 obtain⟨g,cap,cur,hv,hg0,hg,hnc,hcm,hcs,htk⟩:∃g cap cur,v'=.slice (some ⟨g,0,none⟩) es'.length cap/\w.heap.size<=g/\w'.heap[g]?=some (.cells cur e (0,0))/\es'.length<=cap/\cap<=maxLen/\cur.size=cap*sz/\cur.toList.take (es'.length*sz)=vals:=by
  rcases q2.2 with⟨_,h⟩|⟨g,cap,cur,h1,h2,h3,h4,h5,h6,h7⟩
  ·omega
  ·exact⟨g,cap,cur,h1,h2,h3,h4,h5,h6,h7⟩
 subst hv;have Y:∀k,k<w.heap.size->w'.heap[k]?=w.heap[k]?:=fun k F=>q3.block k F (by simp)
 have Z:gZ S w w':=fun k F=>Y k (U.fz_lt k (U.ro_fz k F))
 have T:=S.le_addRow (.slice (some ⟨g,0,none⟩) es'.length cap) sz;have E:(S.addRow (.slice (some ⟨g,0,none⟩) es'.length cap) sz).loc S.N=.slice (some ⟨g,0,none⟩) es'.length cap:=by simp[Sg.addRow]
 have O:∀k r,k≠S.N->aH H S.N (some ⟨e,sz,es'⟩) k=some r->H k=some r:=fun k r F h=>by rwa [aD _ _ _ _ F]at h
 refine⟨⟨_,_,_,rfl⟩,⟨U.ro_fz,fun k F=>Nat.lt_of_lt_of_le (U.fz_lt k F) q3.size,?_,?_,?_,U.tabs.keep T Z⟩,⟨T,fun _ h=>h,q3.os,q3.tape,q3.output,q3.size,fun k F=>Y k (U.fz_lt k F),fun _ h=>.inl h⟩,g,cap,rfl,hnc⟩
 ·intro k r F;by_cases e0:k=S.N
  ·subst e0;rw[aB]at F;injection F with F;subst F;refine⟨Nat.lt_succ_self _,by simp[Sg.addRow],ae,af,.inl ⟨vals,?_,eG T Z _ _ hr,h1⟩⟩;rw[E];exact⟨q2.1,.inr ⟨g,cap,cur,rfl,Nat.zero_le _,hg,hnc,hcm,hcs,htk⟩⟩
  ·have J:=O k r e0 F;exact(U.rows k r J).keep T Z fun g' A=>Y g' ((U.rows k r J).block_lt A)
 ·intro k r F g' A;by_cases e0:k=S.N
  ·subst e0;rw[E]at A;simp only[blk,Option.some.injEq]at A;subst A;exact fun h=>by have:=U.fz_lt _ h;omega
  ·have J:=O k r e0 F;rw[T.loc k (U.rows k r J).lt]at A;exact U.free k r J g' A
 ·intro k k' r r' F J ab g' A X;by_cases e0:k=S.N
  ·subst e0;rw[E]at A;simp only[blk,Option.some.injEq]at A;subst A;have aa:=O k' r' (Ne.symm ab) J;rw[T.loc k' (U.rows k' r' aa).lt]at X;have:=(U.rows k' r' aa).block_lt X;omega
  ·have aa:=O k r e0 F;rw[T.loc k (U.rows k r aa).lt]at A;by_cases e1:k'=S.N
   ·subst e1;rw[E]at X;simp only[blk,Option.some.injEq]at X;subst X;have:=(U.rows k r aa).block_lt A;omega
   ·have ac:=O k' r' e1 J;rw[T.loc k' (U.rows k' r' ac).lt]at X;exact U.disj k k' r r' aa ac ab g' A X
def St.appendNew(hS:St S w H){es:List (List AV)}{us:Value}(ah:rep S w (.cl es) us){t ty e:TypeId}{sz A:Nat}(he:cA P t=some (e,sz,A)){news:List (List AV)}{u:Value}(hu:xT S w u news)(ao:news≠[])
   (Z:cQ sz es) (ai:cQ sz news) (hb:(es.length+news.length)*A<=140737488355328):
   ∃F w',(Builtin.append_ #[t,t] ty #[us,u]).run P w=.ok F w'/\(∃a n c,F=.slice a n c) /\
     St (S.addRow F sz) w' (aH H S.N (some ⟨e,sz,es++news⟩))/\Grow S w (S.addRow F sz) w':=by
 obtain⟨ab,z,aj,hi,ag,ak,J,Y,hz,ae⟩:=gM he;have T:=ah;simp only[rep]at T;obtain⟨al,n0,rfl,_⟩:=T;obtain⟨l0,ar,am,an,rfl,ax,aw⟩:=OI ah Z;obtain⟨ad,c,l,rfl,hl,af,au⟩:=hu;have X:=iT.1 ai;have ac:=iT.1 Z;have aa:l.length=news.length*sz:=by grind[iK,pE]
 have ay:0<news.length:=List.length_pos_iff.2 ao;have av:es.length+news.length<=140737488355328:=Nat.le_trans (Nat.le_mul_of_pos_right _ Y) hb;obtain⟨b,o,rfl,hcell⟩:∃b o,ad=some ⟨b,o,none⟩/\∀j x,l[j]?=some x->w.cell? ⟨b,o+j,none⟩=some x:=by grind
 have E:∀j x,l[j]?=some x->w.cell? ((⟨b,o,none⟩:Addr).add j)=some x:=fun j x hj=>by grind[Addr.add_lit]
 have ap:∃F w',(Builtin.append_ #[t,t] ty #[.slice al es.length es.length,.slice (some ⟨b,o,none⟩) news.length c]).run P w=.ok F w'/\w'.ownsRow w.heap.size e sz F (es.length+news.length) (l0++l)/\w.grownBy w' none:=by
   cases al with
   | none=>
     have aq:es=[]:=by grind
     subst aq;obtain rfl:l0=[]:=List.eq_nil_of_length_eq_zero (by grind);obtain⟨F,w',q1,q2,q3,_⟩:=run_append_own (P:=P) w w.heap.size t ty e ab z sz A aj hi hz ag ak ae J (.slice none 0 0) 0 [] (World.ownsRow_nil w _ e sz) ⟨b,o,none⟩ news.length c l aa E af (by grind[maxLen]) hb (Nat.le_refl _);exact⟨F,w',q1,q2,q3⟩
   | some a0=>
     have U:∀j x,l0[j]?=some x->w.cell? (a0.add j)=some x:=by grind[Addr.add_lit]
     exact run_append_arg_grows (P:=P) w t ty e ab z sz A aj hi hz ag ak ae J a0 es.length es.length l0 ar U ⟨b,o,none⟩ news.length c l aa E (by omega) (by grind[maxLen]) hb
 obtain⟨F,w',q1,q2,q3⟩:=ap;have hf:(es++news).flatten=es.flatten++news.flatten:=List.flatten_append;obtain ⟨p1, p2, p3, _⟩ := hS.newOwned (es' := es ++ news) J (fun cs O => by
     rcases List.mem_append.1 O with O|O
     . exact ac cs O
     . exact X cs O) (by simp;omega) (by rw[List.length_append];exact q2) q3 (by rw[hf];exact eV _ _ _ _ am hl) (fun x hx=>by
     rcases List.mem_append.1 hx with hx|hx
     . exact an x hx
     . exact af x hx)
 exact⟨F,w',q1,p1,p2,p3⟩
def St.appendOz(hS:St S w H){k a b:Nat}{r:Row}(hk:H k=some r){us:Value}(a5:rep S w (.oz k a b) us){t ty:TypeId}{J:Nat}(he:cA P t=some (r.e,r.sz,J)){news:List (List AV)}{u:Value}(hu:xT S w u news)
   (aa:news≠[]) (hb:b=r.es.length) (U:cQ r.sz news) (F:(r.es.length+news.length)*J<=140737488355328):
   ∃v' w' vl ae,(Builtin.append_ #[t,t] ty #[us,u]).run P w=.ok v' w'/\St (S.addRow vl r.sz) w' (aH (aH H k none) S.N (some ⟨r.e,r.sz,ae++(r.es.drop a++news)⟩))/\Grow S w (S.addRow vl r.sz) w' /\
     rep (S.addRow vl r.sz) w' (.oz S.N ae.length (ae.length+(b-a)+news.length)) v'/\ae.length<=a:=by
 have hR:=hS.rows k r hk;obtain⟨ai,z,aw,hi,ac,bd,ah,aj,hz,bb⟩:=gM he;have ag:=a5;simp only[rep]at ag;obtain⟨bm,bk,n0,c0,al,cc,A,rfl,bh,bp,ay,a4,bo,rfl⟩:=ag;have af:∀x:Option Row,∀j r',aH (aH H k none) S.N x j=some r'->aH H S.N x j=some r':=fun x j r' h=>by
   by_cases e:j=S.N
   . subst e;rw[aB]at h |-;exact h
   . rw[aD _ _ _ _ e]at h |-;by_cases e2:j=k
     . subst e2;rw[aB]at h;cases h
     . rw[aD _ _ _ _ e2]at h;exact h
 have a9:=hu;obtain⟨ad,c,l,rfl,hl,ar,an⟩:=a9;have X:=iT.1 U;have ap:l.length=news.length*r.sz:=by rw[iK _ _ hl,pE news X]
 have bq:0<news.length:=List.length_pos_iff.2 aa;have bj:r.es.length+news.length<=140737488355328:=Nat.le_trans (Nat.le_mul_of_pos_right _ aj) F;obtain⟨bn,on,rfl,hcell⟩:∃b o,ad=some ⟨b,o,none⟩/\∀j x,l[j]?=some x->w.cell? ⟨b,o+j,none⟩=some x:=by
   rcases an with h|h
   . exact absurd h aa
   . exact h
 have T:∀j x,l[j]?=some x->w.cell? ((⟨bn,on,none⟩:Addr).add j)=some x:=fun j x Z=>by rw[Addr.add_lit];exact hcell j x Z
 rcases Nat.lt_or_ge a c0 with am|am
 . obtain⟨g,rfl,rfl⟩:=ay am;obtain⟨xs,ho,hr,h1⟩:=hR.sl A;obtain⟨cur,hgc,O,htk,rfl⟩:∃cur,w.heap[g]?=some (.cells cur r.e (0,0))/\cur.size=c0*r.sz/\cur.toList.take (r.es.length*r.sz)=xs/\n0=r.es.length:=by
     rcases ho.2 with⟨hv,_⟩|⟨g',cap,cur,hv,_,h3,h4,h5,h6,h7⟩
     . rw[A]at hv;cases hv
     . rw[A]at hv;injection hv with e1 e2 e3;injection e1 with e1;injection e1 with e1;subst e1 e2 e3;exact⟨cur,h3,h6,h7,rfl⟩
   have a7:xs.length=r.es.length*r.sz:=ho.1;have a8:∀j x,xs[j]?=some x->w.cell? ⟨g,j,none⟩=some x:=fun j x Z=>by
     have:=ho.cells (g:=g) (by rw[A];rfl) j x Z
     rwa [Addr.add_lit,Nat.zero_add]at this
   subst hb;rcases Nat.lt_or_ge (c0-a) (r.es.length-a+news.length)with ak|bf
   . have a6 : ∀ j x, (xs.drop (a * r.sz))[j]? = some x -> w.cell? ((⟨g, a * S.sz k, none⟩ : Addr).add j) = some x := fun j x Z => by rw[List.getElem?_drop]at Z;rw[Addr.add_lit,<-hR.sz];exact a8 _ _ Z
     obtain⟨v',w',q1,q2,q3⟩:=run_append_arg_grows (P:=P) w t ty r.e ai z r.sz J aw hi hz ac bd bb ah ⟨g,a*S.sz k,none⟩ (r.es.length-a) (c0-a) (xs.drop (a*r.sz)) (by rw[List.length_drop,a7,Nat.sub_mul]) a6 ⟨bn,on,none⟩ news.length c l ap T ak (by simp only[maxLen];omega)
       (Nat.le_trans (Nat.mul_le_mul_right _ (by omega)) F)
     have ab:(r.es.drop a++news).length=r.es.length-a+news.length:=by simp
     have be:bJ S w (r.es.drop a).flatten (xs.drop (a*r.sz)):=by rw[AF r.es a hR.len];exact vE _ _ _ hr
     obtain ⟨_, p2, p3, g', cap', rfl, ax⟩ := hS.newOwned (es' := r.es.drop a ++ news) (vals := xs.drop (a * r.sz) ++ l) ah (fun cs O => by
         rcases List.mem_append.1 O with O|O
         . exact hR.len cs (List.mem_of_mem_drop O)
         . exact X cs O) (by rw[ab];omega) (by rw[ab];exact q2) q3 (by rw[List.flatten_append];exact eV _ _ _ _ be hl) (fun x hx=>by
         rcases List.mem_append.1 hx with hx|hx
         . exact h1 x (List.mem_of_mem_drop hx)
         . exact ar x hx)
     refine⟨_,w',_,[],q1,p2.drop' (af _),p3,?_,Nat.zero_le _⟩;simp only[rep,List.length_nil,Nat.zero_add,Sg.addRow,if_true];exact⟨Nat.lt_succ_self _,_,_,_,_,_,rfl,by rw[ab];rfl,Nat.zero_le _,by rw[ab];exact Nat.le_refl _,fun _=>⟨g',rfl,by rw[Nat.zero_mul]⟩,fun _=>⟨rfl,rfl⟩,ax,by rw[Nat.sub_zero]⟩
   . have aq : ∀ off E cap, off + E * ai.size = r.es.length * r.sz -> E + news.length <= cap -> (Builtin.append_ #[t, t] ty #[.slice (some ⟨g, off, none⟩) E cap, .slice (some ⟨bn, on, none⟩) news.length c]).run P w = .ok (.slice (some ⟨g, off, none⟩) (E + news.length) cap) (w.setCells g (r.es.length * r.sz) l) := fun off E cap Y ba => by
       have az:∀j,j<l.length->r.es.length*r.sz+j<cur.size:=fun j Z=>by have:(r.es.length+news.length)*r.sz<=c0*r.sz:=Nat.mul_le_mul_right _ (by omega);rw[Nat.add_mul]at this;rw[O];omega
       have:=run_append_room_cells (P:=P) w t ty r.e ai aw hi g off E cap ⟨bn,on,none⟩ news.length c l (by rw[ac];exact ap) T ar ba
         (fun j Z=>by rw[Y];exact aaZ hgc (az j Z)) (fun j Z=>by rw[Y];exact UB hgc)
       rw[Y]at this;exact this
     have r1:=aq 0 r.es.length c0 (by rw[ac,Nat.zero_add]) (by omega);have r2:=aq (a*S.sz k) (r.es.length-a) (c0-a) (by rw[ac,<-hR.sz,<-Nat.add_mul];congr 1;omega) (by omega);obtain⟨v1,w1,q1,_,q2,q3⟩:=hS.append hk A (ty:=ty) he hu U F;rw[A,r1]at q1;injection q1 with e1 e2;subst e1 e2;have au:(r.es.take a).length=a:=by rw[List.length_take];omega
     refine⟨_,_,_,r.es.take a,r2,?_,q3,?_,Nat.le_of_eq au⟩
     . rw[<-List.append_assoc,List.take_append_drop];exact q2
     . simp only[rep,Sg.addRow,if_true];rw[au];exact⟨Nat.lt_succ_self _,_,_,_,_,_,rfl,congrArg (fun m=>Value.slice _ m _) (by omega),by omega,by omega,fun _=>⟨g,rfl,by rw[<-hR.sz]⟩,fun h0=>by subst h0;exact⟨by rw[Nat.zero_mul],by omega⟩,by omega,rfl⟩
 . have e0:r.es.drop a=[]:=List.drop_eq_nil_of_le (by omega);have a0:c0-a=0:=by omega
   have ao:b-a=0:=by omega
   obtain⟨v',w',q1,⟨x1,x2,x3,rfl⟩,q2,q3⟩:=hS.appendNew (es:=[]) (us:=.slice al (b-a) (c0-a)) (by simp only[rep];exact⟨al,0,by rw[a0,ao],rfl,Nat.zero_le _,.inl trivial⟩) (ty:=ty) he hu aa trivial U (by simpa using Nat.le_trans (Nat.mul_le_mul_right _ (Nat.le_add_left _ _)) F);have av:=q2.rows S.N _ (aB _ _ _);obtain⟨bi,Y,_,_⟩:=av.sl (by simp[Sg.addRow]:(S.addRow (.slice x1 x2 x3) r.sz).loc S.N=.slice x1 x2 x3);have bc:(S.addRow (.slice x1 x2 x3) r.sz).loc S.N=.slice x1 x2 x3:=by simp[Sg.addRow]
   obtain⟨g',rfl,rfl,hc3⟩:∃g',x1=some ⟨g',0,none⟩/\x2=news.length/\news.length<=x3:=by
     rcases Y.2 with⟨_,hn⟩|⟨g',cap',bg,hv,_,_,h4,_⟩
     . simp at hn;exact absurd hn aa
     . rw[bc]at hv;injection hv with e1 e2 e3;subst e3;simp at e2 h4;exact⟨g',e1,e2,h4⟩
   refine⟨_,w',_,[],q1,?_,q3,?_,Nat.zero_le _⟩
   . rw[e0];exact q2.drop' (af _)
   . simp only[rep,List.length_nil,Nat.zero_add,Sg.addRow,if_true,ao];exact⟨Nat.lt_succ_self _,_,_,_,_,_,rfl,by rw[Nat.sub_zero],Nat.zero_le _,Nat.le_refl _,fun _=>⟨g',rfl,by rw[Nat.zero_mul]⟩,fun _=>⟨rfl,rfl⟩,hc3,by rw[Nat.sub_zero]⟩
end
end Go.Aw
end
section
namespace Go.Aw
open Go.RowKit
mutual
inductive Conv (H:aG):AV->AV->Prop
 | refl (x:AV):Conv H x x
 | any (x:AV):Conv H x .any
 | row (k:Nat) (r:Row) (es:List (List AV)):H k=some r->ConvE H r.es es->Conv H (.os k) (.sl es)
 | sl (es es':List (List AV)):ConvE H es es'->Conv H (.sl es) (.sl es')
 | agg (cs cs':List AV):ConvL H cs cs'->Conv H (.agg cs) (.agg cs')
 | tup (cs cs':List AV):ConvL H cs cs'->Conv H (.tup cs) (.tup cs')
 | ptr (k i f:Nat) (r:Row) (cs:List AV):H k=some r->i<r.es.length->ConvL H (r.es.getD i []) cs->Conv H (.op k i f) (.rp cs f)
 | fn (f:FuncId) (cap cap':List AV):ConvL H cap cap'->Conv H (.fn f cap) (.fn f cap')
inductive ConvL (H:aG):List AV->List AV->Prop
 | nil:ConvL H [] []
 | cons (x y:AV) (r s:List AV):Conv H x y->ConvL H r s->ConvL H (x::r) (y::s)
inductive ConvE (H:aG):List (List AV)->List (List AV)->Prop
 | nil:ConvE H [] []
 | cons (x y:List AV) (r s:List (List AV)):ConvL H x y->ConvE H r s->ConvE H (x::r) (y::s)
end
theorem ConvL.refl{H:aG}:∀l,ConvL H l l
 | []=>.nil
 | x::r=>.cons x x r r (.refl x) (ConvL.refl r)
theorem ConvE.refl{H:aG}:∀l,ConvE H l l
 | []=>.nil
 | x::r=>.cons x x r r (ConvL.refl x) (ConvE.refl r)
def Sg.froze(S:Sg)(H:aG):Sg:=
 { S with ro:=fun g=>S.ro g\/∃k r,H k=some r/\blk (S.loc k)=some g,fz:=fun g=>S.fz g\/∃k r,H k=some r/\blk (S.loc k)=some g }
def Sg.le_froze(S:Sg)(H:aG):S.le (S.froze H):=⟨fun _ h=>.inl h,Nat.le_refl _,fun _ _=>rfl,fun _ _=>rfl⟩
section
variable{S:Sg}{w:World}{H:aG}
def ConvE.len:∀{es es':List (List AV)},ConvE H es es'->es'.length=es.length
 | _,_,.nil=>rfl
 | _,_,.cons _ _ _ _ _ h=>by simp[ConvE.len h]
mutual
theorem Conv.rep(J:St S w H):∀{x y:AV} {u:Value},Conv H x y->rep S w x u->Aw.rep (S.froze H) w y u
 | _,_,_,.refl x,h=>nS (S.le_froze H) (gZ.refl S w) _ _ h
 | _,_,_,.any x,_=>by grind[Aw.rep]
 | _,_,u,.row k r es hk F,h=>by
  simp only[Aw.rep]at h |-;obtain⟨_,rfl,_,_,_,O⟩:=h;have T:=J.rows k r hk;obtain⟨xs,ho,hr,h1⟩:=T.sl O;rcases ho.2 with⟨Y,hn⟩|⟨g,cap,cur,Y,_,h2,h3,Z,h5⟩
  ·have h0:=List.eq_nil_of_length_eq_zero hn;refine⟨none,0,0,Y,by rw[F.len,hn],Nat.le_refl _,Nat.zero_le _,.inl ?_⟩;exact List.eq_nil_of_length_eq_zero (by rw[F.len,hn])
  ·refine⟨_,_,cap,Y,F.len,h3,Z,.inr ⟨g,0,r.sz,rfl,.inr ⟨k,r,hk,by rw[Y];rfl⟩,T.pos,?_⟩⟩;refine ConvE.rep J F ?_;refine tI _ _ T.len (kI _ xs 0 hr h1 fun j u hu=>?_);have:=ho.cells (g:=g) (by rw[Y];rfl) j u hu
   grind[Addr.add_lit]
 | _,_,_,.sl es es' F,h=>by
  simp only[Aw.rep]at h |-;obtain⟨ad,n,c,rfl,h1,h2,h3,Z⟩:=h;refine⟨ad,n,c,rfl,by rw[F.len,h1],h2,h3,?_⟩;rcases Z with Z|⟨b,o,sz,rfl,hb,hs,X⟩
  ·exact .inl (List.eq_nil_of_length_eq_zero (by rw[F.len,Z];rfl))
  ·exact .inr ⟨b,o,sz,rfl,.inl hb,hs,ConvE.rep J F X⟩
 | _,_,_,.agg cs cs' hc,h=>by simp only[Aw.rep]at h |-;obtain⟨l,rfl,h1,h2⟩:=h;exact⟨l,rfl,ConvL.rep J hc h1,h2⟩
 | _,_,_,.tup cs cs' hc,h=>by simp only[Aw.rep]at h |-;obtain⟨l,rfl,h1⟩:=h;exact⟨l,rfl,ConvL.rep J hc h1⟩
 | _,_,_,.ptr k i f r cs hk hi hc,h=>by
  simp only[Aw.rep]at h |-;obtain⟨_,g,n,c,E,rfl⟩:=h;have T:=J.rows k r hk;have aa:r.es≠[]:=fun e=>by grind
  obtain⟨g',n',c',A,F,_⟩:=T.els E aa;rw[E]at A;injection A with U e2 e3;injection U with U;injection U with U;subst U;obtain⟨e4,e5⟩:=vJ _ 0 i F hi;rw[Nat.zero_add,T.sz]at e5;exact⟨g,i*S.sz k,rfl,.inr ⟨k,r,hk,by rw[E];rfl⟩,(ConvL.cells J hc e5).1⟩
 | _,_,_,.fn f cap cap' hc,h=>by simp only[Aw.rep]at h |-;obtain⟨l,rfl,h1⟩:=h;exact⟨l,rfl,ConvL.rep J hc h1⟩
theorem ConvL.rep(A:St S w H):∀{x y:List AV} {l:List Value},ConvL H x y->bJ S w x l->bJ (S.froze H) w y l
 | _,_,_,.nil,h=>h
 | _,_,_,.cons x y r s hx hr,h=>by simp only[bJ]at h |-;obtain⟨u,t,rfl,h1,E⟩:=h;exact⟨u,t,rfl,Conv.rep A hx h1,ConvL.rep A hr E⟩
theorem ConvL.cells(A:St S w H){b:Nat}:∀{x y:List AV} {o:Nat},ConvL H x y->dD S w b o x->dD (S.froze H) w b o y/\y.length=x.length
 | _,_,_,.nil,_=>⟨trivial,rfl⟩
 | _,_,o,.cons x y r s hx hr,h=>by simp only[dD]at h |-;obtain⟨⟨u,h1,E,h3⟩,J⟩:=h;obtain⟨F,O⟩:=ConvL.cells A hr J;exact⟨⟨⟨u,h1,E,Conv.rep A hx h3⟩,F⟩,by simp[O]⟩
theorem ConvE.rep(A:St S w H){b sz:Nat}:∀{x y:List (List AV)} {o:Nat},ConvE H x y->iY S w b sz o x->iY (S.froze H) w b sz o y
 | _,_,_,.nil,_=>trivial
 | _,_,o,.cons x y r s hx hr,h=>by simp only[iY]at h |-;obtain⟨h1,E,h3⟩:=h;obtain⟨F,J⟩:=ConvL.cells A hx E;exact⟨by rw[J,h1],F,ConvE.rep A hr h3⟩
end
end
mutual
def fv:AV->Option Value
 | .v x=>some x
 | .tup vs=>(fvL vs).map fun l=>.tuple l.toArray
 | .agg vs=>(fvL vs).map fun l=>.agg l.toArray
 | _=>none
def fvL:List AV->Option (List Value)
 | []=>some []
 | x::r=>match fv x,fvL r with
   | some u,some l=>some (u::l)
   | _,_=>none
end
mutual
theorem Qa{S:Sg}{w:World}:∀{x:AV} {u v:Value},fv x=some v->rep S w x u->u=v
 | .v x,u,v,h,hr=>by grind[fv,rep]
 | .tup vs,u,v,h,hr=>by
  simp only[fv]at h;cases A:fvL vs with
  | none=>simp[A]at h
  | some l=>simp[A]at h;subst h;simp only[rep]at hr;obtain⟨l',rfl,h1⟩:=hr;rw[Qw A h1]
 | .agg vs,u,v,h,hr=>by
  simp only[fv]at h;cases A:fvL vs with
  | none=>simp[A]at h
  | some l=>simp[A]at h;subst h;simp only[rep]at hr;obtain⟨l',rfl,h1,_⟩:=hr;rw[Qw A h1]
 | .any,_,_,h,_=>by grind[fv]
 | .sl _,_,_,h,_=>by grind[fv]
 | .rp _ _,_,_,h,_=>by grind[fv]
 | .os _,_,_,h,_=>by grind[fv]
 | .op _ _ _,_,_,h,_=>by grind[fv]
 | .gd _ _,_,_,h,_=>by grind[fv]
 | .fn _ _,_,_,h,_=>by grind[fv]
 | .nf _,_,_,h,_=>by grind[fv]
 | .oz _ _ _,_,_,h,_=>by grind[fv]
 | .cl _,_,_,h,_=>by grind[fv]
theorem Qw{S:Sg}{w:World}:∀{x:List AV} {u v:List Value},fvL x=some v->bJ S w x u->u=v
 | [],u,v,h,hr=>by grind[fvL,bJ]
 | x::r,u,v,h,hr=>by
  simp only[fvL]at h;cases h1:fv x with
  | none=>simp[h1]at h
  | some a=>
   cases A:fvL r with
   | none=>simp[h1,A]at h
   | some l=>simp[h1,A]at h;subst h;simp only[bJ]at hr;obtain⟨J,t,rfl,E,F⟩:=hr;rw[Qa h1 E,Qw A F]
end
mutual
theorem Vr{S J:Sg}{w E:World}:∀{x:AV} {u v:Value},fv x=some v->rep S w x u->rep J E x u
 | .v x,u,v,h,hr=>by grind[rep]
 | .tup vs,u,v,h,hr=>by
  simp only[fv]at h;cases A:fvL vs with
  | none=>simp[A]at h
  | some l=>simp only[rep]at hr |-;obtain⟨l',rfl,h1⟩:=hr;exact⟨l',rfl,Pj A h1⟩
 | .agg vs,u,v,h,hr=>by
  simp only[fv]at h;cases A:fvL vs with
  | none=>simp[A]at h
  | some l=>simp only[rep]at hr |-;obtain⟨l',rfl,h1,F⟩:=hr;exact⟨l',rfl,Pj A h1,F⟩
 | .any,_,_,h,_=>by grind[fv]
 | .sl _,_,_,h,_=>by grind[fv]
 | .rp _ _,_,_,h,_=>by grind[fv]
 | .os _,_,_,h,_=>by grind[fv]
 | .op _ _ _,_,_,h,_=>by grind[fv]
 | .gd _ _,_,_,h,_=>by grind[fv]
 | .fn _ _,_,_,h,_=>by grind[fv]
 | .nf _,_,_,h,_=>by grind[fv]
 | .oz _ _ _,_,_,h,_=>by grind[fv]
 | .cl _,_,_,h,_=>by grind[fv]
theorem Pj{S J:Sg}{w E:World}:∀{x:List AV} {u v:List Value},fvL x=some v->bJ S w x u->bJ J E x u
 | [],u,v,h,hr=>by grind[bJ]
 | x::r,u,v,h,hr=>by
  simp only[fvL]at h;cases h1:fv x with
  | none=>simp[h1]at h
  | some a=>
   cases A:fvL r with
   | none=>simp[h1,A]at h
   | some l=>simp only[bJ]at hr |-;obtain⟨O,t,rfl,F,T⟩:=hr;exact⟨O,t,rfl,Vr h1 F,Pj A T⟩
end
def ayU(S:Sg)(w:World)(H:aG)(R:AV->aG->Prop)(e:Ending)(w':World):Prop:=
 ∃v r H' S',e=.returned v/\R r H'/\St S' w' H'/\rep S' w' r v/\Grow S w S' w'/\gC S.N H H'
def bK(P:Program)(f:FuncId)(args:List AV)(H:aG)(R:AV->aG->Prop):Prop:=
 ∀S w (vals:List Value),St S w H->bJ S w args vals->Calls P f vals.toArray w (ayU S w H R)
def bY:aG:=fun _=>none
def RC(P:Program)(f:FuncId)(args:List AV)(R:AV->aG->Prop):Prop:=
 ∀S w (vals:List Value),St S w bY->(∀k,k<w.heap.size->S.fz k)->bJ S w args vals->Calls P f vals.toArray w (ayU S w bY R)
def PC(P:Program)(f:FuncId)(args:List AV)(r:AV):Prop:=RC P f args fun x _=>x=r
def NC(P:Program)(f:FuncId)(args:List AV)(row:Row)(mk:Nat->AV):Prop:=RC P f args fun x H'=>∃k,x=mk k/\H' k=some row
def Be(P:Program)(f:FuncId)(args:List AV)(H:aG)(r:AV):Prop:=∃args',ConvL H args args'/\PC P f args' r/\(fv r).isSome=true
def dS(P:Program)(f:FuncId)(args:List AV)(H:aG)(r:AV):Prop:=Be P f args H r\/∃x,r=.nf x/\PC P f args x
def Tg{q:Bool}{r:AV}{K:AV->Prop}(h:(fv r).isSome=true):nfq q r K=K r:=by cases q <;> cases r <;> first|rfl|(simp[fv]at h)
def S6{q:Bool}{r:AV}{K:AV->Prop}(h:nfq q r K):∃z,K z:=by
 unfold nfq at h
 grind
section
variable{P:Program}{f:FuncId}{args:List AV}{H:aG}{R K:AV->aG->Prop}
def RC.mono(h:RC P f args R)(E:∀r H',R r H'->K r H'):RC P f args K:=fun S w vals F J O=>(h S w vals F J O).mono fun _ _ ⟨v,r,H',S',h1,A,h3⟩=>⟨v,r,H',S',h1,E r H' A,h3⟩
def St.drop{S:Sg}{w:World}{H':aG}(h:St S w H)(E:∀k r,H' k=some r->H k=some r):St S w H':=
 ⟨h.ro_fz,h.fz_lt,fun k r A=>h.rows k r (E k r A),fun k r A=>h.free k r (E k r A),fun k k' r r' A F=>h.disj k k' r r' (E k r A) (E k' r' F),h.tabs⟩
def RC.conv{r:AV}(h:RC P f args fun x H'=>Conv H' x r):PC P f args r:=fun S w vals hS X U=>
 (h S w vals hS X U).mono fun e w' ⟨v,x,H',S',Z,T,E,Y,F,hn⟩=>by
  refine⟨v,r,bY,S'.froze H',Z,rfl,⟨?_,?_,fun k r J=>by grind[bY],fun k r J=>by grind[bY],fun k k' r r' J=>by grind[bY],E.tabs.keep (S'.le_froze H') (gZ.refl S' w')⟩,T.rep E Y,?_,fun _ _ _=>rfl⟩
  ·rintro g (A|A)
   ·exact .inl (E.ro_fz g A)
   ·exact .inr A
  ·rintro g (A|⟨k,row,J,A⟩)
   ·exact E.fz_lt g A
   ·exact(E.rows k row J).block_lt A
  ·refine⟨Sg.le_trans F.le (S'.le_froze H'),fun k J=>.inl (F.fz k J),F.os,F.tape,F.output,F.size,F.same,?_⟩;rintro g (A|⟨k,row,J,A⟩)
   ·exact F.newro g A
   ·exact .inr fun O=>E.free k row J g A (F.fz g O)
def merge(H H':aG):aG:=fun k=>match H' k with|some r=>some r|none=>H k
def RC.frame(h:RC P f args R)(hK:∀r H',R r H'->(∀k row,H' k=some row->H k=none)->∃aa,K r aa/\(∀k row,aa k=some row->merge H H' k=some row)/\∀k,H k=none->H' k=none->aa k=none):
  bK P f args H K:=by
 intro S w vals F ha
 let S0:Sg:={ S with fz:=fun k=>k<w.heap.size }
 have al:S.le S0:=⟨fun _ h=>h,Nat.le_refl _,fun _ _=>rfl,fun _ _=>rfl⟩;have aq:St S0 w bY:=⟨fun k A=>F.fz_lt k (F.ro_fz k A),fun _ h=>h,fun k r A=>by grind[bY],fun k r A=>by grind[bY],fun k k' r r' A=>by grind[bY],F.tabs⟩;refine(h S0 w vals aq (fun _ h=>h) (eG al (gZ.refl S w) _ _ ha)).mono fun e w' ⟨v,x,H',S',he,hx,J,hv,T,hn⟩=>?_
 have av:∀k row,H' k=some row->S.N<=k:=fun k row A=>by
  rcases Nat.lt_or_ge k S.N with ae|ao
  ·rw[hn k ae rfl]at A;grind
  omega
 have ac:∀k row,H' k=some row->H k=none:=fun k row A=>by
  cases hH:H k with
  | none=>rfl
  | some r=>have:=(F.rows k r hH).lt;grind
 obtain⟨aa,ar,ap,an⟩:=hK x H' hx ac
 let S'':Sg:={ S' with fz:=fun k=>S.fz k\/(S'.fz k/\w.heap.size<=k)\/S'.ro k }
 have Z:S'.le S'':=⟨fun _ h=>h,Nat.le_refl _,fun _ _=>rfl,fun _ _=>rfl⟩;have ah:∀k,k<S.N->S'.loc k=S.loc k:=T.le.loc;have ab:S.le S'':=⟨fun k A=>T.le.ro k A,T.le.N,T.le.loc,T.le.sz⟩;have O:∀k,k<w.heap.size->w'.heap[k]?=w.heap[k]?:=T.same;have ag:gZ S w w':=fun k A=>O k (F.fz_lt k (F.ro_fz k A))
 have au:∀k r,H k=some r->RowOK S'' w' k r:=fun k r A=>(F.rows k r A).keep ab ag fun g E=>O g ((F.rows k r A).block_lt E)
 have am:∀k r,H' k=some r->RowOK S'' w' k r:=fun k r A=>(J.rows k r A).keep Z (gZ.refl S' w') fun _ _=>rfl
 have Y:∀k r,H k=some r->∀g,blk (S''.loc k)=some g->blk (S.loc k)=some g/\g<w.heap.size:=fun k r A g E=>by have h1:S''.loc k=S.loc k:=ah k (F.rows k r A).lt;rw[h1]at E;exact⟨E,(F.rows k r A).block_lt E⟩
 have af:∀k r,H' k=some r->∀g,blk (S''.loc k)=some g->¬S'.fz g/\w.heap.size<=g:=fun k r A g E=>by
  have h1:=J.free k r A g E;refine⟨h1,?_⟩;rcases Nat.lt_or_ge g w.heap.size with ae|ao
  ·exact absurd (T.fz g ae) h1
  omega
 have jO:∀k r,merge H H' k=some r->H' k=some r\/(H k=some r/\H' k=none):=fun k r A=>by grind[merge]
 have hM:St S'' w' (merge H H'):=by
  refine⟨fun k A=>.inr (.inr A),?_,?_,?_,?_,J.tabs⟩
  ·rintro k (A|A|A)
   ·exact Nat.lt_of_lt_of_le (F.fz_lt k A) T.size
   ·exact J.fz_lt k A.1
   ·exact J.fz_lt k (J.ro_fz k A)
  ·intro k r A
   grind
  ·intro k r A g E U;rcases jO k r A with h'|⟨h',_⟩
   ·obtain⟨e1,e2⟩:=af k r h' g E;rcases U with U|U|U
    ·have:=F.fz_lt g U;omega
    ·grind
    ·exact e1 (J.ro_fz g U)
   ·obtain⟨e1,e2⟩:=Y k r h' g E;rcases U with U|U|U
    ·exact F.free k r h' g e1 U
    ·omega
    ·rcases T.newro g U with X|X
     ·exact F.free k r h' g e1 (F.ro_fz g X)
     omega
  ·intro k k' r r' A ai aj g E ak;rcases jO k r A with h1|⟨h1,_⟩
   ·rcases jO k' r' ai with X|⟨X,_⟩
    ·exact J.disj k k' r r' h1 X aj g E ak
    grind
   ·rcases jO k' r' ai with X|⟨X,_⟩
    ·grind
    ·exact F.disj k k' r r' h1 X aj g (Y k r h1 g E).1 (Y k' r' X g ak).1
 refine⟨v,x,aa,S'',he,ar,hM.drop ap,nS Z (gZ.refl S' w') _ _ hv,⟨ab,fun _ h=>.inl h,T.os,T.tape,T.output,T.size,fun k A=>O k (F.fz_lt k A),fun k A=>(T.newro k A).imp id (fun X h3=>X (F.fz_lt k h3))⟩,?_⟩
 ·intro k A h0;exact an k h0 (hn k A rfl)
def PC.use{r:AV}(h:PC P f args r)(E:K r H):bK P f args H K:=
 RC.frame h fun x H' A F=>⟨H,A▸E,fun k row J=>by grind[merge],fun _ h _=>h⟩
def NC.use{row:Row}{A:Nat->AV}(h:NC P f args row A)(J:∀k,H k=none->K (A k) (aH H k (some row))):bK P f args H K:=
 RC.frame h fun x H' ⟨k,F,O⟩ E=>⟨aH H k (some row),F▸J k (E k row O),fun j r T=>by grind[merge,aB,aD],fun j h0 h1=>by grind[aD]⟩
def Be.val{r:AV}(h:Be P f args H r):∃v,fv r=some v:=by obtain⟨_,_,_,A⟩:=h;exact Option.isSome_iff_exists.1 A
def Be.calls{r:AV}(h:Be P f args H r){v:Value}(hv:fv r=some v){S:Sg}{w:World}{vals:List Value}(T:St S w H)(ha:bJ S w args vals):
  (∀S2 Z,rep S2 Z r v)/\Calls P f vals.toArray w fun e w'=>e=.returned v/\w'.os=w.os/\w'.tape=w.tape/\w'.output=w.output/\w.heap.size<=w'.heap.size/\∀k,k<w.heap.size->w'.heap[k]?=w.heap[k]?:=by
 obtain⟨args',hc,hp,hf⟩:=h
 let S0:Sg:={ S.froze H with fz:=fun k=>k<w.heap.size }
 have E:(S.froze H).le S0:=⟨fun _ h=>h,Nat.le_refl _,fun _ _=>rfl,fun _ _=>rfl⟩;have X:St S0 w bY:=⟨fun k J=>by
  rcases J with J|⟨j,r,hj,F⟩
  ·exact T.fz_lt k (T.ro_fz k J)
  ·exact(T.rows j r hj).block_lt F,fun _ h=>h,fun k r J=>by grind[bY],fun k r J=>by grind[bY],fun k k' r r' J=>by grind[bY],(T.tabs.keep (S.le_froze H) (gZ.refl S w)).keep E (gZ.refl _ w)⟩
 have A:=hp S0 w vals X (fun _ h=>h) (eG E (gZ.refl _ w) _ _ (hc.rep T ha));refine⟨fun S2 Z=>?_,A.mono fun e w' ⟨v',x,H',S',he,Y,U,O,F,hn⟩=>?_⟩
 ·obtain⟨e,w',fr,⟨v',x,H',S',he,Y,U,O,_⟩,_⟩:=A []
  grind[Qa,Vr]
 ·subst Y;have:=Qa hv O;subst this;exact⟨he,F.os,F.tape,F.output,F.size,F.same⟩
def St.after{S:Sg}{w w':World}(A:St S w H)(J:w.heap.size<=w'.heap.size)(F:∀k,k<w.heap.size->w'.heap[k]?=w.heap[k]?):St S w' H:=
 ⟨A.ro_fz,fun k h=>Nat.lt_of_lt_of_le (A.fz_lt k h) J,fun k r h=>(A.rows k r h).keep S.le_refl (fun j E=>F j (A.fz_lt j (A.ro_fz j E))) fun g O=>F g ((A.rows k r h).block_lt O),A.free,A.disj,A.tabs.keep S.le_refl (fun j E=>F j (A.fz_lt j (A.ro_fz j E)))⟩
def St.grow{S:Sg}{w w':World}(F:St S w H)(O:w'.os=w.os)(J:w'.tape=w.tape)(A:w'.output=w.output)(E:w.heap.size<=w'.heap.size)(T:∀k,k<w.heap.size->w'.heap[k]?=w.heap[k]?):Grow S w S w':=
 ⟨S.le_refl,fun _ h=>h,O,J,A,E,fun k h=>T k (F.fz_lt k h),fun _ h=>.inl h⟩
def Be.use{r:AV}(h:Be P f args H r)(T:K r H):bK P f args H K:=by
 intro S w vals E ha;obtain⟨v,A⟩:=h.val;obtain⟨hv,X⟩:=h.calls A E ha;refine X.mono fun e w' ⟨Z,U,O,Y,J,F⟩=>⟨v,r,H,S,Z,T,E.after J F,?_,E.grow U O Y J F,gC.refl _ _⟩
 grind
end
end Go.Aw
end
section
namespace Go.Aw
open Go.RowKit
def Rel(n:Nat)(S0:Sg)(w0:World)(H0:aG)(ρ:Env)(H:aG)(a:Act)(w:World):Prop:=
 ∃S,St S w H/\FR S w ρ a/\Grow S0 w0 S w/\gC S0.N H0 H/\a.defers=[]/\a.tmps.size=n
def aAS(n:Nat):Option Nat->Bool
 | some d=>decide (d<n)
 | none=>true
def lQ(n:Nat)(o:Oper):Bool:=o.op.operands.all (opB n)&&aAS n o.dst
section
variable{P:Program}{n:Nat}{S0:Sg}{w0:World}{H0:aG}{mt:Nat->Bool}{ops:Array Oper}
def AT{o:Oper}(h:lQ n o=true):(∀x∈o.op.operands,opB n x=true)/\aAS n o.dst=true:=by
 simp only[lQ,Bool.and_eq_true]at h
 grind[Array.all_eq_true_iff_forall_mem]
theorem BS(a:Act)(d:Option Nat)(v:Value):(a.put d v).tmps.size=a.tmps.size:=by cases d <;> simp[Act.put]
theorem sL(a:Act)(d:Option Nat)(v:Value):(a.put d v).defers=a.defers:=by cases d <;> simp[Act.put]
def AS{S:Sg}{w:World}{ρ:Env}{a:Act}{o:Oper}{K:Option Bool->Prop}(A:∀o∈ops,lQ n o=true)(U:FR S w ρ a)(Y:a.tmps.size=n)(h:cP ops ρ o.guard K):
  ∃G,K G/\(Region.wanted o (yielded ops a.tmps)=true↔gt G):=by
 unfold cP at h;unfold Region.wanted;cases T:o.guard with
 | none=>grind[gt]
 | some jw=>
  obtain⟨j,J⟩:=jw;rw[T]at h;simp only at h;cases E:(ops[j]?).bind (·.dst)with
  | none=>grind
  | some t=>
   rw[E]at h;simp only at h;have O:t<a.tmps.size:=by
    cases F:ops[j]? with
    | none=>grind
    | some oj=>
     simp[F]at E;have:=(AT (A oj (Array.mem_of_getElem? F))).2
     grind[aAS]
   have Z:yielded ops a.tmps j=match a.tmps.getD t undef with| .bool b=>some b|_=>none:=by unfold yielded;simp_all;grind
   have X:=U t O
   grind[rep,gt,undef]
theorem fD{S:Sg}{w:World}{G:Option Bool}{z:AV}(h:¬gt G):rep S w (wr G z) undef:=by cases G<;>simp_all[gt,wr,rep]
def gB{S:Sg}{w:World}{G:Option Bool}{z:AV}{v:Value}(h:gt G)(A:rep S w z v):rep S w (wr G z) v:=by
 cases G with
 | none=>exact A
 | some b=>
  have:b=true:=h
  grind[wr,rep]
end
section
variable{P:Program}{n:Nat}{S0:Sg}{w0:World}{H0:aG}{mt:Nat->Bool}{ops:Array Oper}{K:Env->aG->Prop}{K':Act->World->Prop}{Q':Exit->Act->World->Prop}{ρ:Env}{H:aG}{a:Act}{w:World}{o:Oper}{S:Sg}
def Bx(P:Program)(ops:Array Oper)(o:Oper)(a:Act)(w:World)(K':Act->World->Prop)(Q':Exit->Act->World->Prop):Prop:=
 (Region.wanted o (yielded ops a.tmps)=true->o.wp P a w K' Q')/\(Region.wanted o (yielded ops a.tmps)=false->K' (a.put o.dst undef) w)
def dV{v:Value}{w':World}(h:(execOp a.eval o).run P w=.ok (.value v) w')(A:K' (a.put o.dst v) w'):o.wp P a w K' Q':=by unfold Oper.wp;rw[h];exact A
def Rel.step(T:St S w H)(X:FR S w ρ a)(J:Grow S0 w0 S w)(O:gC S0.N H0 H)(Y:a.defers=[])(Z:a.tmps.size=n){S':Sg}{w':World}{H':aG}{z:AV}{v:Value}{d:Option Nat}
  (E:St S' w' H') (A:Grow S w S' w') (F:gC S.N H H') (U:rep S' w' z v):Rel n S0 w0 H0 (upd ρ d z) H' (a.put d v) w':=
 ⟨S',E,FR.put (X.keep A.le (A.kept T)) U,J.trans A,O.trans F J.le.N,by grind[sL],by grind[BS]⟩
def vF(F:St S w H)(J:FR S w ρ a)(Z:Grow S0 w0 S w)(hN:gC S0.N H0 H)(U:a.defers=[])(T:a.tmps.size=n)(hb:∀x∈o.op.operands,opB n x=true){G:Option Bool}
  (O:Region.wanted o (yielded ops a.tmps)=true↔gt G) (Y:∀E H' X w',K E H'->Rel n S0 w0 H0 E H' X w'->K' X w') (h:jE P G ρ H o.op fun x=>K (upd ρ o.dst (wr G x)) H):
  Bx P ops o a w K' Q':=by
 obtain⟨z,hz,hg⟩:=H5 (T▸hb) J F.rows h;refine⟨fun hw=>?_,fun hw=>?_⟩
 ·have A:=O.1 hw;obtain⟨v,hv,hr⟩:=hg A;exact dV (hr w (Agree.refl S H w) o rfl) (Y _ _ _ _ hz (Rel.step F J Z hN U T F (Grow.refl S w) (gC.refl _ _) (gB A hv)))
 ·have A:¬gt G:=fun h=>by grind
  exact Y _ _ _ _ hz (Rel.step F J Z hN U T F (Grow.refl S w) (gC.refl _ _) (fD A))
def rB(A:St S w H){r:Option Row}:gC S.N H (aH H S.N r):=fun k E h=>by grind[aD]
def asT(t:TypeId)(v:Value)(w:World):(Instr.box t v).run P w=.ok (.pointer (some ⟨w.heap.size,0,none⟩)) (w.alloc (.cells v.cells t)):=by rfl
def afI{t:TypeId}{z:List AV}(h:dH P t=some z)(E:Value)(w:World):∃(v:Value) (i:TypeInfo),P.info? t=some i/\z=v.cells.toList.map tK/\(∀u∈v.cells.toList,u.oneCell'=true)/\v.cells.size≠0 /\
  (Instr.alloc t true E).run P w=.ok (.pointer (some ⟨w.heap.size,0,none⟩)) (w.alloc (.cells v.cells t)):=by
 obtain⟨i,v,O,T,A,F,J,h1⟩:=pL h;refine⟨v,i,O,A,h1,by omega,?_⟩;simp_all[Instr.alloc,zeroValue,typeInfo,newVar,newRow]
def GX(E:St S w H){t:TypeId}{cs:List AV}{l:List Value}(A:0<cs.length)(J:bJ S w cs l)(h1:∀u∈l,u.oneCell'=true):
  ∃S',St S' (w.alloc (.cells l.toArray t)) (aH H S.N (some ⟨t,cs.length,[cs]⟩))/\Grow S w S' (w.alloc (.cells l.toArray t))/\rep S' (w.alloc (.cells l.toArray t)) (.op S.N 0 0) (.pointer (some ⟨w.heap.size,0,none⟩)):=by
 have F:=iK _ _ J;have:=E.newRow (e:=t) (sz:=cs.length) (cap:=1) (es:=[cs]) (xs:=l) (cur:=l.toArray) A (by simp) (by grind) h1 (by simp) (by simp[maxLen]) (by grind) (by simp[<-F]) (w':=w.alloc (.cells l.toArray t)) rfl rfl rfl rfl;refine⟨_,this.1,this.2,?_⟩;simp[rep,Sg.addRow]
theorem Kw:∀(i n:Nat),Qk i n=List.range' i n
 | _,0=>rfl
 | i,n+1=>by simp[Qk,List.range'_succ,Kw (i+1) n]
def Nq{sz n:Nat}:∀(l:List (Nat×List AV)) (vs:List (Nat×Value)) (i:Nat) (A:Array Value),l.map (·.1)=Qk i l.length->cQ sz (l.map (·.2))->l.length=vs.length ->
  (∀(j k:Nat) (c:List AV),l[j]?=some (k,c)->∃(v:Value) (l':List Value),vs[j]?=some (k,v)/\v.cells=List.toArray l'/\bJ S w c l'/\∀u∈l',u.oneCell'=true)->A.size=n*sz->i+l.length=n ->
  ∃xs:List Value,Instr.fill (fun i=>some (i*sz,sz)) A vs=some (A.toList.take (i*sz)++xs).toArray/\bJ S w (l.map (·.2)).flatten xs/\∀u∈xs,u.oneCell'=true
 | [],vs,i,A,_,_,hl,_,hA,hi=>by have:vs=[]:=List.eq_nil_of_length_eq_zero (by grind);subst this;refine⟨[],?_,by rfl,by simp⟩;simp_all[Instr.fill,List.take_of_length_le]
 | (k,c)::rest,vs,i,A,E,hlen,hl,hv,hA,hi=>by
  simp only[List.map_cons,List.length_cons,Qk,List.cons.injEq]at E;obtain⟨rfl,E⟩:=E;simp only[List.map_cons,cQ]at hlen;obtain⟨v,l',O,Y,e3,Z⟩:=hv 0 k c (by simp);cases vs with
  | nil=>grind
  | cons q vs=>
   simp at O;subst O;have J:l'.length=sz:=by grind[iK]
   simp only[List.length_cons]at hi;have U:(k+1)*sz<=n*sz:=Nat.mul_le_mul_right _ (by omega);rw[Nat.add_mul,Nat.one_mul]at U;have T:=Gs l' 0 A (k*sz) (by omega);simp only[Nat.add_zero]at T;obtain⟨xs,X,f2,f3⟩:=Nq (n:=n) rest vs (k+1) (A.toList.take (k*sz)++l'++A.toList.drop (k*sz+l'.length)).toArray E hlen.2 (by grind) (fun j i c hj=>by simpa using hv (j+1) i c (by grind))
    (by grind) (by omega)
   refine⟨l'++xs,?_,?_,?_⟩
   ·simp only[Instr.fill,Y,List.size_toArray,J];rw[if_neg (by grind)];have F:(Array.foldl (fun cs (x:Value×Nat)=>cs.setIfInBounds (k*sz+x.2) x.1) A l'.toArray.zipIdx)=(A.toList.take (k*sz)++l'++A.toList.drop (k*sz+l'.length)).toArray:=by grind
    rw[F,X]
    congr 2
    have e5:List.take ((k+1)*sz) (A.toList.take (k*sz)++l'++A.toList.drop (k*sz+l'.length))=A.toList.take (k*sz)++l':=by rw[Nat.add_mul,Nat.one_mul,List.take_append_of_le_length (by grind),List.take_of_length_le (by grind)]
    grind
   all_goals grind[eV]
def Jl{t e:TypeId}{sz O:Nat}(he:cA P t=some (e,sz,O)){l:List (Nat×List AV)}{A:Array (Nat×Value)}{m:Nat}(J:l.map (·.1)=Qk 0 m)(T:cQ sz (l.map (·.2)))(hl:l.length=A.toList.length)
  (hv:∀(j k:Nat) (c:List AV),l[j]?=some (k,c)->∃(v:Value) (l':List Value),A.toList[j]?=some (k,v)/\v.cells=List.toArray l'/\bJ S w c l'/\∀u∈l',u.oneCell'=true) (hm:m*sz<=16777216):
  ∃xs:List Value,(Instr.buildSlice t m A).run P w=.ok (.slice (some ⟨w.heap.size,0,none⟩) m m) (w.alloc (.cells xs.toArray e))/\bJ S w (l.map (·.2)).flatten xs/\(∀u∈xs,u.oneCell'=true)/\l.length=m/\xs.length=m*sz:=by
 obtain⟨F,z,hu,hi,rfl,_,ab,_,hz,ac⟩:=gM he;have U:l.length=m:=by
  have:=congrArg List.length J
  grind[Kw]
 have E:∀xs:List Value,bJ S w (l.map (·.2)).flatten xs->xs.length=m*F.size:=fun xs h=>by grind[iK,pE,iT,List.length_map]
 subst U;obtain⟨xs,f1,f2,f3⟩:=Nq (n:=l.length) l A.toList 0 ((Array.range (l.length*F.size)).map (z.cells[·%z.cells.size]!)) J T hl hv (by simp) (by simp);simp only[Nat.zero_mul,List.take_zero,List.nil_append]at f1;refine⟨xs,?_,f2,f3,rfl,E xs f2⟩;have X:¬l.length*F.size>2^24:=by omega
 by_cases h0:l.length*F.size=0
 ·have aa:l.length=0:=by grind[Nat.mul_eq_zero]
  have Z:A.toList=[]:=List.eq_nil_of_length_eq_zero (by omega);have Y:xs=[]:=List.eq_nil_of_length_eq_zero (by rw[E xs f2,h0]);subst Y;simp[Instr.buildSlice,run_underlying hu,sizeOf,typeInfo,hi,Z,Instr.fill,newRow,aa];have:(Array.range 0).map (fun _=>(default:Value))=#[]:=Array.eq_empty_of_size_eq_zero (by simp);rw[this]
 ·simp[Instr.buildSlice,run_underlying hu,sizeOf,typeInfo,hi,X,h0,zeroValue,hz,newRow];simp_all
end
end Go.Aw
end
section
namespace Go.Aw
open Go.RowKit
section
variable{P:Program}{n:Nat}{S0:Sg}{w0:World}{H0:aG}{mt:Nat->Bool}{ops:Array Oper}{K:Env->aG->Prop}{K':Act->World->Prop}{Q':Exit->Act->World->Prop}{ρ:Env}{H:aG}{a:Act}{w:World}{o:Oper}{S:Sg}
theorem dL{G:Option Bool}(A:Region.wanted o (yielded ops a.tmps)=true↔gt G)(E:G=none):Region.wanted o (yielded ops a.tmps)=true:=by subst E;exact A.2 trivial
def Tc{f:FuncId}(h:aF P f=true):∃fn,P.funcs[f]?=some fn/\(fn.name == "runtime.NumGoroutine")=false/\fn.body.isNone=false:=by unfold aF at h;simp_all;grind
theorem vD{f:FuncId}(h:aF P f=true)(args:Array Value)(w:World):(callFunc f args).run P w=.ok (.enter f args) w:=by
 obtain⟨fn,h1,F,h3⟩:=Tc h;have E:¬fn.name = "runtime.NumGoroutine" := by grind
 have A:¬fn.body=none:=fun e=>by grind
 simp_all[callFunc]
def gD(A:Region.wanted o (yielded ops a.tmps)=true)(h:o.wp P a w K' Q'):Bx P ops o a w K' Q':=⟨fun _=>h,fun e=>by grind⟩
theorem aaF:∀(l:List Value),bJ S w (l.map .v) l
 | []=>by rfl
 | v::r=>by simp only[List.map_cons,bJ];exact⟨v,r,rfl,qI,aaF r⟩
def D9{x:AV}{g:FuncId}{F E:List AV}{u:Value}(h:LR x=some (g,F,E))(J:rep S w x u):
  ∃first A:Array Value,u=.func (.func g) first A/\bJ S w F first.toList/\bJ S w E A.toList:=by
 unfold LR at h
 grind[rep,aaF,bJ]
def rO{c:Call}{f:Operand}(E:c.callee=.value f){g:FuncId}{first A:Array Value}(F:a.eval f=.func (.func g) first A)(ty:TypeId):
  resolve a.eval c ty=pure { target:=.fn (.func g) A,args:=first++c.args.map a.eval }:=by
 unfold resolve;simp only[E];rw[F];rfl
def T6{nl av:Bool}{G:Option Bool}{c:Call}(E:St S w H)(hF:FR S w ρ a)(hG:Grow S0 w0 S w)(hN:gC S0.N H0 H)(hd:a.defers=[])(hn:a.tmps.size=n)(ho:o.op=.call c)(hb:∀x∈o.op.operands,opB n x=true)
   (ai:Region.wanted o (yielded ops a.tmps)=true↔gt G) (hK:∀ba H' a' w',K ba H'->Rel n S0 w0 H0 ba H' a' w'->K' a' w') (h:EA P (bK P) (dS P) nl av G o c ρ H K):Bx P ops o a w K' Q':=by
 rw[ho]at hb;simp only[Op.operands,Call.operands]at hb;unfold EA at h;split at h
 . rename_i b hc;obtain⟨ys,h2,ak⟩:=qM hF c.args.toList (fun x hx=>hn▸hb x (by grind)) h;clear h;have h:=h2;clear h2;split at h
   . rename_i x t Z;obtain⟨z,hz,hl⟩:=JJ (G:=G) (ty:=o.type) E.rows h;refine⟨fun hw=>?_,fun hw=>?_⟩
     . have O:=ai.1 hw;have hr:=ak O;simp only[bJ]at hr;obtain⟨u,t',e1,e2,rfl⟩:=hr;obtain⟨v,hv,an⟩:=hl O u e2;have ea:c.args.map a.eval=#[u]:=by grind
       have et:c.argTypes=#[t]:=Array.toList_inj.1 (by omega);refine dV (v:=v) (w':=w) ?_ (hK _ _ _ _ hz (Rel.step E hF hG hN hd hn E (Grow.refl S w) (gC.refl _ _) (gB O hv)));simp[execOp,ho,resolve,hc,invoke,builtin,ea,et,an w (Agree.refl S H w)]
     . have O:¬gt G:=fun h=>by grind
       exact hK _ _ _ _ hz (Rel.step E hF hG hN hd hn E (Grow.refl S w) (gC.refl _ _) (fD O))
   . rename_i s x t t' Z;split at h
     . rename_i aa;obtain⟨bj,ah,_⟩:=aa;subst ah;subst bj;have hw:=dL ai rfl;refine gD hw ?_;have hr:=ak trivial;simp only[bJ]at hr;obtain⟨us,t1,e1,e2,ux,t2,rfl,e3,rfl⟩:=hr;have ea:c.args.map a.eval=#[us,ux]:=Array.toList_inj.1 (by simp_all);have et:c.argTypes=#[t,t]:=Array.toList_inj.1 (by omega);unfold uV at h;split at h
       . rename_i k e sz X he;split at h
         . rename_i r hk;have app : ∀ news, xT S w ux news -> ((r.e = e /\ r.sz = sz /\ cQ sz news /\ (r.es.length + news.length) * X <= 140737488355328) /\
               ∀k',H k'=none->K (upd ρ o.dst (.os k')) (aH (aH H k none) k' (some ⟨e,sz,r.es++news⟩)))->o.wp P a w K' Q':=by
             rintro news Y ⟨⟨rfl,rfl,af,ab⟩,aj⟩;simp only[rep]at e2;obtain⟨br,rfl,_,_,_,a5⟩:=e2;obtain⟨v',w',q1,q2,q3,q4⟩:=E.append hk a5 (ty:=o.type) he Y af ab;refine dV (v:=v') (w':=w') ?_ (hK _ _ _ _ (aj S.N E.fresh) (Rel.step E hF hG hN hd hn q3 q4 ?_ ?_))
             . simp_all[execOp,resolve,invoke,builtin]
             . intro j hj h0
               grind[aD]
             simp_all[rep,Sg.addRow]
           unfold yE at h;split at h
           . grind[Gy]
           . rename_i k2;split at h
             . rename_i r2 U;simp only[rep]at e3;obtain⟨_,rfl,_,_,_,T⟩:=e3;exact app _ (FS (E.rows k2 r2 U) T) h
             grind
           . rename_i k2 a2 b2;split at h
             . rename_i r2 U;exact app _ (BM (E.rows k2 r2 U) e3).1 h
             grind
           grind
         grind
       . rename_i es e sz X he;have app : ∀ news, xT S w ux news -> ((news ≠ [] /\ cQ sz es /\ cQ sz news /\ (es.length + news.length) * X <= 140737488355328) /\
             ∀k',H k'=none->K (upd ρ o.dst (.os k')) (aH H k' (some ⟨e,sz,es++news⟩)))->o.wp P a w K' Q':=by
           rintro news Y ⟨⟨ao,a4,af,ab⟩,aj⟩;obtain⟨v',w',q1,q2,q3,q4⟩:=E.appendNew e2 (ty:=o.type) he Y ao a4 af ab;refine dV (v:=v') (w':=w') ?_ (hK _ _ _ _ (aj S.N E.fresh) (Rel.step E hF hG hN hd hn q3 q4 ?_ ?_))
           . simp_all[execOp,resolve,invoke,builtin]
           . intro j hj h0
             grind[aD]
           simp_all[rep,Sg.addRow]
         unfold yE at h;split at h
         . grind[Gy]
         . rename_i k2;split at h
           . rename_i r2 U;simp only[rep]at e3;obtain⟨_,rfl,_,_,_,T⟩:=e3;exact app _ (FS (E.rows k2 r2 U) T) h
           grind
         . rename_i k2 a2 b2;split at h
           . rename_i r2 U;exact app _ (BM (E.rows k2 r2 U) e3).1 h
           grind
         grind
       . rename_i k a0 b0 e sz X he;split at h
         . rename_i r hk;have app : ∀ news, xT S w ux news -> ((r.e = e /\ r.sz = sz /\ news ≠ [] /\ cQ sz news /\ b0 = r.es.length /\ (r.es.length + news.length) * X <= 140737488355328) /\
               ∀(k':Nat) (am:List (List AV)),am.length<=a0->H k'=none->K (upd ρ o.dst (.oz k' am.length (am.length+(b0-a0)+news.length))) (aH (aH H k none) k' (some ⟨e,sz,am++(r.es.drop a0++news)⟩)))->o.wp P a w K' Q':=by
             rintro news Y ⟨⟨rfl,rfl,ao,af,hb,ab⟩,aj⟩;obtain⟨v',w',vl,am,q1,q3,q4,q5,q6⟩:=E.appendOz hk e2 (ty:=o.type) he Y ao hb af ab;refine dV (v:=v') (w':=w') ?_ (hK _ _ _ _ (aj S.N am q6 E.fresh) (Rel.step E hF hG hN hd hn q3 q4 ?_ q5))
             . simp[execOp,ho,resolve,hc,invoke,builtin,ea,et,q1]
             . intro j hj h0;rw[aD _ _ _ _ (Nat.ne_of_lt hj)];by_cases e:j=k
               . subst e;exact aB _ _ _
               . rw[aD _ _ _ _ e];exact h0
           unfold yE at h;split at h
           . exact app _ (Gy e3) h
           . rename_i k2;split at h
             . rename_i r2 U;simp only[rep]at e3;obtain⟨_,rfl,_,_,_,T⟩:=e3;exact app _ (FS (E.rows k2 r2 U) T) h
             . exact h.elim
           . rename_i k2 a2 b2;split at h
             . rename_i r2 U;exact app _ (BM (E.rows k2 r2 U) e3).1 h
             . exact h.elim
           . exact h.elim
         . exact h.elim
       . rename_i e sz X he;have bk:rep S w (.cl []) us:=by
           have hu:us=.slice none 0 0:=by grind[rep]
           subst hu;simp only[rep]
           grind
         have app : ∀ news, xT S w ux news -> ((news = [] /\ K (upd ρ o.dst (.v (.slice none 0 0))) H) \/ (news ≠ [] /\ cQ sz ([] : List (List AV)) /\ cQ sz news /\ (([] : List (List AV)).length + news.length) * X <= 140737488355328) /\
             ∀k',H k'=none->K (upd ρ o.dst (.os k')) (aH H k' (some ⟨e,sz,[]++news⟩)))->o.wp P a w K' Q':=by
           rintro news Y (⟨rfl,h0⟩|⟨⟨ao,a4,af,ab⟩,aj⟩)
           . obtain⟨bg,z,a6,hi,_⟩:=gM he;obtain⟨ad,c,l,rfl,_⟩:=Y;have hu:us=.slice none 0 0:=by simp only[rep]at e2;exact e2
             subst hu;refine dV (v:=.slice none 0 0) (w':=w) ?_ (hK _ _ _ _ h0 (Rel.step E hF hG hN hd hn E (Grow.refl S w) (gC.refl _ _) e2));simp[execOp,ho,resolve,hc,invoke,builtin,ea,et,wJ (b:=none) (ad:=ad) (c2:=c) (ty:=o.type) a6 hi (Nat.le_refl 0)]
           obtain⟨v',w',q1,q2,q3,q4⟩:=E.appendNew bk (ty:=o.type) he Y ao a4 af ab;refine dV (v:=v') (w':=w') ?_ (hK _ _ _ _ (aj S.N E.fresh) (Rel.step E hF hG hN hd hn q3 q4 ?_ ?_))
           . simp_all[execOp,resolve,invoke,builtin]
           . intro j hj h0
             grind[aD]
           simp_all[rep,Sg.addRow]
         unfold yE at h;split at h
         . exact app _ (Gy e3) h
         . rename_i k2;split at h
           . rename_i r2 U;simp only[rep]at e3;obtain⟨_,rfl,_,_,_,T⟩:=e3;exact app _ (FS (E.rows k2 r2 U) T) h
           . exact h.elim
         . rename_i k2 a2 b2;split at h
           . rename_i r2 U;exact app _ (BM (E.rows k2 r2 U) e3).1 h
           . exact h.elim
         . exact h.elim
       . rename_i es e' he;have app:∀news,xT S w ux news->(news=[]/\K (upd ρ o.dst (.sl es)) H)->o.wp P a w K' Q':=by rintro news Y ⟨rfl,h0⟩;obtain⟨e,sz,X⟩:=e';obtain⟨bg,z,a6,hi,_⟩:=gM he;obtain⟨ad,c,l,rfl,_⟩:=Y;have e4:=e2;simp only[rep]at e2;obtain⟨a9,n2,c2,rfl,bt,bq,_⟩:=e2;refine dV (v:=.slice a9 n2 c2) (w':=w) ?_ (hK _ _ _ _ h0 (Rel.step E hF hG hN hd hn E (Grow.refl S w) (gC.refl _ _) e4));simp[execOp,ho,resolve,hc,invoke,builtin,ea,et,wJ (b:=a9) (ad:=ad) (c2:=c) (ty:=o.type) a6 hi bq]
         unfold yE at h;split at h
         . exact app _ (Gy e3) h
         . rename_i k2;split at h
           . rename_i r2 U;simp only[rep]at e3;obtain⟨_,rfl,_,_,_,T⟩:=e3;exact app _ (FS (E.rows k2 r2 U) T) h
           grind
         . rename_i k2 a2 b2;split at h
           . rename_i r2 U;exact app _ (BM (E.rows k2 r2 U) e3).1 h
           grind
         grind
       grind
     grind
   . rename_i x y t t' Z;split at h
     . rename_i aa;obtain⟨ah,_⟩:=aa;subst ah;have hw:=dL ai rfl;refine gD hw ?_;have hr:=ak trivial;simp only[bJ]at hr;obtain⟨us,t1,e1,e2,ux,t2,rfl,e3,rfl⟩:=hr;have ea:c.args.map a.eval=#[us,ux]:=Array.toList_inj.1 (by simp_all);have et:c.argTypes=#[t,t']:=Array.toList_inj.1 (by omega);have go : ∀ k a0 n0 r, H k = some r -> a0 + n0 <= r.es.length -> (∃ ad cc, us = .slice ad n0 cc /\ (0 < n0 -> ∃ g n' c', S.loc k = .slice (some ⟨g, 0, none⟩) n' c' /\ ad = some ⟨g, a0 * r.sz, none⟩)) -> ∀ news, xT S w ux news ->
           (match cA P t with
             | some (_,sz,_)=>(r.sz=sz/\cQ sz news)/\K (upd ρ o.dst (.v (.int .i64 (min news.length n0:Nat)))) (aH H k (some { r with es:=r.es.take a0++news.take (min news.length n0)++r.es.drop (a0+min news.length n0) }))
             | none=>False)->o.wp P a w K' Q':=by
         intro k a0 n0 r hk ay hx news Y ag;split at ag
         . rename_i e sz X he;obtain⟨⟨h1,h2⟩,h3⟩:=ag;obtain⟨w',q1,q2,q3⟩:=E.copy hk (t':=t') (ty:=o.type) he h1 ay Y h2 hx;refine dV (v:=goInt (min news.length n0:Nat)) (w':=w') ?_ (hK _ _ _ _ h3 (Rel.step E hF hG hN hd hn q2 q3 ?_ (by rfl)))
           . simp_all[execOp,resolve,invoke,builtin]
           . intro j hj h0
             grind[aD]
         grind
       have src:∀F:List (List AV)->Prop,yE H y F->∃news,xT S w ux news/\F news:=by
         intro F hF;unfold yE at hF;split at hF
         . grind[Gy]
         . rename_i k2;split at hF
           . rename_i r2 U;simp only[rep]at e3;obtain⟨_,rfl,_,_,_,T⟩:=e3;exact⟨_,FS (E.rows k2 r2 U) T,hF⟩
           grind
         . rename_i k2 a2 b2;split at hF
           . rename_i r2 U;exact⟨_,(BM (E.rows k2 r2 U) e3).1,hF⟩
           grind
         grind
       unfold aaG amM at h;split at h
       . rename_i k;split at h
         . rename_i r hk;obtain⟨news,hs,ag⟩:=src _ h;have hR:=E.rows k r hk;simp only[rep]at e2;obtain⟨_,rfl,ad,n,cc,ae⟩:=e2;obtain⟨xs,aq,_,_⟩:=hR.sl ae;have hn:n=r.es.length/\(0<r.es.length->∃g,ad=some ⟨g,0,none⟩):=by
             rcases aq.2 with⟨hv,h0⟩|⟨g,cap,cur,hv,_⟩
             all_goals grind
           refine go k 0 r.es.length r hk (by omega) ⟨ad,cc,by grind,fun hp=>?_⟩ news hs ag
           grind
         grind
       . rename_i k a0 b0;split at h
         . rename_i r hk;obtain⟨news,hs,ag⟩:=src _ h;have hR:=E.rows k r hk;obtain⟨_,hb,bo⟩:=BM hR e2;simp only[rep]at e2;obtain⟨_,ad,n,c0,az,cc,ae,rfl,a7,bb,ar,_,bd,_⟩:=e2;refine go k a0 (b0-a0) r hk (by omega) ⟨az,cc,rfl,fun hp=>?_⟩ news hs ag;obtain⟨g,rfl,rfl⟩:=ar (by omega);exact⟨g,n,c0,ae,by rw[hR.sz]⟩
         grind
       grind
     grind
   . rename_i x t Z;split at h
     . rename_i aa;obtain⟨ah,_⟩:=aa;subst ah;have hw:=dL ai rfl;refine gD hw ?_;have hr:=ak trivial;simp only[bJ]at hr;obtain⟨us,t1,e1,e2,rfl⟩:=hr;have ea:c.args.map a.eval=#[us]:=Array.toList_inj.1 (by simp_all);have et:c.argTypes=#[t]:=Array.toList_inj.1 (by omega);have go : ∀ k a0 n0 r, H k = some r -> a0 + n0 <= r.es.length -> (∃ ad cc, us = .slice ad n0 cc /\ (0 < n0 -> ∃ g n' c', S.loc k = .slice (some ⟨g, 0, none⟩) n' c' /\ ad = some ⟨g, a0 * r.sz, none⟩)) ->
           (match cA P t with
             | some (e,sz,_)=>match dH P e with
               | some zs=>r.sz=sz/\K (upd ρ o.dst .any) (aH H k (some { r with es:=r.es.take a0++List.replicate n0 zs++r.es.drop (a0+n0) }))
               | none=>False
             | none=>False)->o.wp P a w K' Q':=by
         intro k a0 n0 r hk ay hx ag;split at ag
         . rename_i e sz X he;split at ag
           . rename_i zs bn;obtain⟨h1,h3⟩:=ag;obtain⟨w',q1,q2,q3⟩:=E.clear hk (ty:=o.type) he bn h1 ay hx;refine dV (v:=.tuple #[]) (w':=w') ?_ (hK _ _ _ _ h3 (Rel.step E hF hG hN hd hn q2 q3 ?_ (by grind[rep])))
             . simp[execOp,ho,resolve,hc,invoke,builtin,ea,et,q1]
             . intro j hj h0
               grind[aD]
           grind
         grind
       unfold VJ amM at h;split at h
       . rename_i k;split at h
         . rename_i r hk;have hR:=E.rows k r hk;simp only[rep]at e2;obtain⟨_,rfl,ad,n,cc,ae⟩:=e2;obtain⟨xs,aq,_,_⟩:=hR.sl ae;have hn:n=r.es.length/\(0<r.es.length->∃g,ad=some ⟨g,0,none⟩):=by
             rcases aq.2 with⟨hv,h0⟩|⟨g,cap,cur,hv,_⟩
             all_goals grind
           refine go k 0 r.es.length r hk (by omega) ⟨ad,cc,by grind,fun hp=>?_⟩ h
           grind
         grind
       . rename_i k a0 b0;split at h
         . rename_i r hk;have hR:=E.rows k r hk;obtain⟨_,hb,bo⟩:=BM hR e2;simp only[rep]at e2;obtain⟨_,ad,n,c0,az,cc,ae,rfl,a7,bb,ar,_,bd,_⟩:=e2;refine go k a0 (b0-a0) r hk (by omega) ⟨az,cc,rfl,fun hp=>?_⟩ h;obtain⟨g,rfl,rfl⟩:=ar (by omega);exact⟨g,n,c0,ae,by rw[hR.sz]⟩
         grind
       grind
     grind
   . rename_i x y t t' Z;obtain⟨z,hz,hl⟩:=Jj (P:=P) (S:=S) (w:=w) (H:=H) (G:=G) (tys:=c.argTypes) (ty:=o.type) h;refine⟨fun hw=>?_,fun hw=>?_⟩
     . have O:=ai.1 hw;have hr:=ak O;simp only[bJ]at hr;obtain⟨us,t1,e1,e2,ux,t2,rfl,e3,rfl⟩:=hr;obtain⟨v,hv,an⟩:=hl O us ux e2 e3;have ea:c.args.map a.eval=#[us,ux]:=Array.toList_inj.1 (by simp_all);refine dV (v:=v) (w':=w) ?_ (hK _ _ _ _ hz (Rel.step E hF hG hN hd hn E (Grow.refl S w) (gC.refl _ _) (gB O hv)));simp_all[execOp,resolve,invoke,builtin,Agree.refl]
     . have O:¬gt G:=fun h=>by grind
       exact hK _ _ _ _ hz (Rel.step E hF hG hN hd hn E (Grow.refl S w) (gC.refl _ _) (fD O))
   . rename_i x y t t' Z;obtain⟨z,hz,hl⟩:=Li (P:=P) (S:=S) (w:=w) (H:=H) (G:=G) (tys:=c.argTypes) (ty:=o.type) h;refine⟨fun hw=>?_,fun hw=>?_⟩
     . have O:=ai.1 hw;have hr:=ak O;simp only[bJ]at hr;obtain⟨us,t1,e1,e2,ux,t2,rfl,e3,rfl⟩:=hr;obtain⟨v,hv,an⟩:=hl O us ux e2 e3;have ea:c.args.map a.eval=#[us,ux]:=Array.toList_inj.1 (by simp_all);refine dV (v:=v) (w':=w) ?_ (hK _ _ _ _ hz (Rel.step E hF hG hN hd hn E (Grow.refl S w) (gC.refl _ _) (gB O hv)));simp_all[execOp,resolve,invoke,builtin,Agree.refl]
     . have O:¬gt G:=fun h=>by grind
       exact hK _ _ _ _ hz (Rel.step E hF hG hN hd hn E (Grow.refl S w) (gC.refl _ _) (fD O))
   grind
 . rename_i f hc;obtain⟨yf,h2,hf⟩:=aT (S:=S) (w:=w) h;clear h;have h:=h2;clear h2;split at h
   . rename_i g be a8 bc;by_cases bf:nl=true
     . rw[if_pos bf]at h;obtain⟨ah,bu,bi,h⟩:=h;have hw:=ai.2 ah;obtain⟨first,A,ax,h2,h3⟩:=D9 bc (hf ah _ (cV hF (hn▸hb f (by grind))));have al:bJ S w (be++c.args.toList.map (Pc ρ)++a8) (first++c.args.map a.eval++A).toList:=by simp only[Array.toList_append];refine eV _ _ _ _ (eV _ _ _ _ h2 ?_) h3;simp_all[Hi]
       have ac:(execOp a.eval o).run P w=.ok (.enter g (first++c.args.map a.eval++A)) w:=by
         simp only[execOp,ho];rw[rO hc ax]
         grind[invoke,vD]
       refine gD hw ?_;have J:=h S w _ E al;unfold Oper.wp;rw[ac];simp only[Oper.upon,Array.toArray_toList]at J |-;refine J.mono fun e w' ⟨v,r,H',S',he,hr,aw,hv,au,ap⟩=>?_
       subst he;exact hK _ _ _ _ hr (Rel.step E hF hG hN hd hn aw au ap hv)
     rw[if_neg bf]at h;obtain⟨ys,h2,ak⟩:=qM hF c.args.toList (fun x hx=>hn▸hb x (by grind)) h;clear h;obtain⟨bi,h⟩:=h2;have bm:=fun hg=>D9 bc (hf hg _ (cV hF (hn▸hb f (by grind))))
     have Z:gt G->∃first A:Array Value,a.eval f=.func (.func g) first A/\bJ S w (be++ys++a8) (first++c.args.map a.eval++A).toList:=fun hg=>by obtain⟨first,A,h1,h2,h3⟩:=bm hg;refine⟨first,A,h1,?_⟩;simp_all[eV]
     split at h
     . rename_i aa;obtain⟨ah,_⟩:=aa;subst ah;have hw:=dL ai rfl;obtain⟨first,A,ax,al⟩:=Z trivial;have ac:(execOp a.eval o).run P w=.ok (.enter g (first++c.args.map a.eval++A)) w:=by
         simp only[execOp,ho];rw[rO hc ax]
         grind[invoke,vD]
       refine gD hw ?_;have J:=h S w _ E al;unfold Oper.wp;rw[ac];simp only[Oper.upon,Array.toArray_toList]at J |-;refine J.mono fun e w' ⟨v,r,H',S',he,hr,aw,hv,au,ap⟩=>?_
       subst he;exact hK _ _ _ _ hr (Rel.step E hF hG hN hd hn aw au ap hv)
     . obtain⟨r,hq,hk⟩:=h;refine⟨fun hw=>?_,fun hw=>?_⟩
       . have O:=ai.1 hw;obtain⟨first,A,ax,al⟩:=Z O;have ac:(execOp a.eval o).run P w=.ok (.enter g (first++c.args.map a.eval++A)) w:=by
           simp only[execOp,ho];rw[rO hc ax]
           grind[invoke,vD]
         rcases hq O with hq|⟨x,rfl,bp⟩
         . obtain⟨v,bh⟩:=hq.val;obtain⟨hv,J⟩:=hq.calls bh E al;rw[Tg (by grind)]at hk;unfold Oper.wp;rw[ac];simp only[Oper.upon,Array.toArray_toList]at J |-;refine J.mono fun e w' ⟨he,p1,p2,p3,p4,p5⟩=>?_
           subst he;exact hK _ _ _ _ hk (Rel.step E hF hG hN hd hn (E.after p4 p5) (E.grow p1 p2 p3 p4 p5) (gC.refl _ _) (gB O (hv S w')))
         . cases av with
           | true=>exact hk.elim
           | false=>
             have J:=(PC.use (H:=H) bp (K:=fun y H'=>y=x/\H'=H) ⟨rfl,rfl⟩) S w _ E al;unfold Oper.wp;rw[ac];simp only[Oper.upon,Array.toArray_toList]at J |-;refine J.mono fun e w' ⟨v,r,H',S',he,⟨hr,hH⟩,aw,hv,au,ap⟩=>?_
             subst he hr hH;exact hK _ _ _ _ hk (Rel.step E hF hG hN hd hn aw au ap (gB O hv))
       . have O:¬gt G:=fun h=>by grind
         obtain⟨z,hk⟩:=S6 hk;exact hK _ _ _ _ hk (Rel.step E hF hG hN hd hn E (Grow.refl S w) (gC.refl _ _) (fD O))
   grind
 grind
end
end Go.Aw
end
