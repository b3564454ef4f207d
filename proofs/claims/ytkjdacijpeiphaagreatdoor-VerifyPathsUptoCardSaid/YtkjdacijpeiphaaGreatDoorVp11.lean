import Derived.Test.YtkjdacijpeiphaaGreatDoorRows
import Derived.Carry
import Derived.OpenShut
import Derived.JoinedCond
import Derived.WalkKit
import Derived.ProofKit
import Derived.WideKeyArgs
import Derived.Test.YtkjdacijpeiphaaGreatDoorVp06
set_option linter.unusedSimpArgs false
set_option linter.unusedVariables false
set_option linter.defProp false
set_option maxRecDepth 100000
section
namespace Go.Proofs.YtkjdacijpeiphaaGreatDoor
open Go.Aw Go.Aw.D Go.Proofs Ty
def inR(n lo hi:Int):Bool:=decide (n>=lo)&&decide (n<=hi)
def kU(s:Stop):Bool:=s.place == -1&&s.start == 0&&s.close == 0&&s.service == 0
def YF(s:Stop):Bool:=decide (s.place<0)||decide (s.start<0)||decide (s.start>s.close)||decide (s.close>4096)||decide (s.service<0)||decide (s.service>4096)
def Qh(s:Stop):Int:=if kU s then 0 else if YF s then 2 else 0
def HB(n:Int):ByteArray:=strOfNums [IntKind.u8.wrap (IntKind.i64.wrap (48+n))]
def CS(n:Nat):ByteArray:=if n<10 then HB n else CS (n/10)++HB (n%10:Nat)
def QY{n:Nat}(h:10<=n):CS n=CS (n/10)++HB (n%10:Nat):=by rw[CS,if_neg (by omega)]
def Gk{n:Nat}(h:n<10):CS n=HB n:=by rw[CS,if_pos h]
def mH(l:List Int)(d:Int):Bool:=if(l.length:Int)=d then l.all fun n=> !(decide (n<0)||decide (n>1000))else false
def bU{k n:Nat}(h:decide ((k:Int)<(n:Int))=true):k<n:=by simpa using h
def bW{k n:Nat}(A:k<=n)(h:decide ((k:Int)<(n:Int))=false):k=n:=by
 have:¬k<n:=by simpa using h
 omega
def capR(l:List Int)(d:Int):Bool:=if(!inR l.length 1 3||(l.length:Int) != d)=true then false else l.all fun n=>inR n 0 1000
def sF{n k:Nat}(h:k<n):(List.range n)[k]?=some k:=by simp[h]
def Y2(l:List VType):Int:=match l with|[]=>0|t::_=>t.cap.length
def gS(l:List VType)(k:Nat)(s:ByteArray):Bool:=(l.take k).any fun t=>t.name.toList == s.toList
def K6(p:Point):Bool:=decide (p.t<0)||decide (p.t>4096)||decide (p.a<p.t)||decide (p.a>IntKind.i64.wrap (p.t+4096))
def UP(p q:Point):Bool:=decide (p.t<=q.t)||decide (p.a<q.a)
def dF(l:List Point)(i:Nat):Point:=l.getD i ⟨0,0⟩
def VZ(n lo hi:Int):Bool:=decide (n<lo)||decide (n>hi)
def qD(l:List Point)(i:Nat):List Fault:=
 opt (K6 (dF l i)) ⟨2,CS i⟩++opt (decide ((i:Int)>0)&&UP (dF l i) (dF l (i-1))) ⟨13,CS i⟩
def qV(l:List Point):List Fault:=opt (VZ l.length 1 16) ⟨4,ByteArray.empty⟩++(List.range l.length).flatMap (qD l)
def eK{l:List Point}{k:Nat}{p:Point}(h:l[k]?=some p):dF l k=p:=by simp[dF,List.getD,h]
end Go.Proofs.YtkjdacijpeiphaaGreatDoor
end
section
namespace Go.Aw.D
open Go.Aw Go.RowKit
def Sw(w:World):Sg:=⟨fun k=>k<w.heap.size,fun k=>k<w.heap.size,fun _=>.slice none 0 0,fun _=>1,0⟩
def Hs(w:World):Prop:=∀t∈QG,pO w t.1=some t.2
theorem K3{w:World}{g:Nat}{cs:Array Value}(h:pO w g=some cs):g<w.heap.size:=by
 unfold pO at h;split at h
 ·rename_i h1;exact(Array.getElem?_eq_some_iff.1 h1).1
 ·cases h
theorem abZ(w:World)(E:Hs w):St (Sw w) w bG:=⟨fun _ h=>h,fun _ h=>h,fun k r A=>by simp[bG]at A,fun k r A=>by simp[bG]at A,fun k k' r r' A=>by simp[bG]at A,fun t h=>⟨K3 (E t h),E t h⟩⟩
def xL(_:Nat)(x:Int):Prop:= -9223372036854775808<=x/\x<=9223372036854775807
def Ga(_:Nat)(_:Bool):Prop:=True
def XL(n:Nat)(s:ByteArray):Prop:=s.size<=n
def bL{α:Type}(b:Nat->α->Prop)(n:Nat)(l:List α):Prop:=l.length<=n/\∀x∈l,b n x
def Rd{H:Type}(e:TypeId×Value->H)(B:DataW H->Nat)(P:Program)(w:World)(t:TypeId){α:Type}(enc:α->List AV)(b:Nat->α->Prop):Prop:=
 ∀fuel cs y,DataW.trod e P w 0 (fun _=>true) true fuel t cs=some y->∃x:α,(aW (Sw w) w (enc x) cs/\∀u∈cs,u.oneCell'=true)/\∀n,B y.1<=n->b n x
section
variable{H:Type}{e:TypeId×Value->H}{P:Program}{w:World}{t:TypeId}
abbrev BK(H:Type):DataW H->Nat:=Go.Proofs.YtkjdacijpeiphaaGreatDoor.Rows.uptoBulk
theorem lP(E:P.underlying t=some (.int .i64)):Rd e (BK H) P w t aQ xL:=by intro A cs y h;obtain⟨n,rfl,_,F⟩:=DataW.trod_int E h;refine⟨n,⟨by simp only[aQ,aW];exact⟨_,_,rfl,by simp only[rep],rfl⟩,by simp[Value.oneCell']⟩,fun _ _=>bounds_i64 F⟩
theorem C7(E:P.underlying t=some .bool):Rd e (BK H) P w t dX Ga:=by intro A cs y h;obtain⟨n,rfl,_⟩:=DataW.trod_bool E h;refine⟨n,⟨by simp only[dX,aW];exact⟨_,_,rfl,by simp only[rep],rfl⟩,by simp[Value.oneCell']⟩,fun _ _=>trivial⟩
theorem Zt(F:P.underlying t=some .string):Rd e (BK H) P w t dB XL:=by intro A cs y h;obtain⟨s,rfl,rfl,_⟩:=DataW.trod_string F h;refine⟨s,⟨by simp only[dB,aW];exact⟨_,_,rfl,by simp only[rep],rfl⟩,by simp[Value.oneCell']⟩,fun n E=>?_⟩;simp only[BK,Go.Proofs.YtkjdacijpeiphaaGreatDoor.Rows.uptoBulk,Array.length_toList]at E;have:s.size=s.data.size:=rfl;simp only[XL];omega
theorem FD{d:DataW H}{l:List (DataW H)}(h:d∈l):BK H d<=Go.Proofs.YtkjdacijpeiphaaGreatDoor.Rows.uptoBulkAll l:=by
 induction l with
 | nil=>cases h
 | cons x r ih=>
  simp only[Go.Proofs.YtkjdacijpeiphaaGreatDoor.Rows.uptoBulkAll];cases List.mem_cons.1 h with
  | inl e=>subst e;simp only[BK];omega
  | inr e=>have:=ih e;omega
theorem UK(d:DataW H):1<=BK H d:=by
 cases d with
 | lit l=>cases l <;> simp[BK,Go.Proofs.YtkjdacijpeiphaaGreatDoor.Rows.uptoBulk]
 | nil=>simp[BK,Go.Proofs.YtkjdacijpeiphaaGreatDoor.Rows.uptoBulk]
 | ptr d=>simp[BK,Go.Proofs.YtkjdacijpeiphaaGreatDoor.Rows.uptoBulk]
 | slice elems spare=>simp[BK,Go.Proofs.YtkjdacijpeiphaaGreatDoor.Rows.uptoBulk]
 | agg parts=>simp[BK,Go.Proofs.YtkjdacijpeiphaaGreatDoor.Rows.uptoBulk]
 | iface t d=>simp[BK,Go.Proofs.YtkjdacijpeiphaaGreatDoor.Rows.uptoBulk]
 | map entries=>simp[BK,Go.Proofs.YtkjdacijpeiphaaGreatDoor.Rows.uptoBulk]
 | held h=>simp[BK,Go.Proofs.YtkjdacijpeiphaaGreatDoor.Rows.uptoBulk]
theorem Lq(l:List (DataW H)):l.length<=Go.Proofs.YtkjdacijpeiphaaGreatDoor.Rows.uptoBulkAll l:=by
 induction l with
 | nil=>simp[Go.Proofs.YtkjdacijpeiphaaGreatDoor.Rows.uptoBulkAll]
 | cons x r ih=>have:=UK x;simp only[Go.Proofs.YtkjdacijpeiphaaGreatDoor.Rows.uptoBulkAll,List.length_cons,BK]at *;omega
theorem Lr{α:Type}(n:Nat)(p:Nat->α->Prop)(h:∀i,i<n->∃x,p i x):∃l:List α,l.length=n/\∀i x,l[i]?=some x->p i x:=by
 induction n with
 | zero=>exact⟨[],rfl,by simp⟩
 | succ n ih=>
  obtain⟨l,M,I⟩:=ih fun i F=>h i (by omega)
  obtain⟨x,J⟩:=h n (by omega);refine⟨l++[x],by simp[M],fun i y A=>?_⟩;rcases Nat.lt_or_ge i n with F|F
  ·rw[List.getElem?_append_left (by omega)]at A;exact I i y A
  ·rw[List.getElem?_append_right (by omega)]at A;have:i-l.length=0:=by
    rcases Nat.eq_zero_or_pos (i-l.length)with h0|h0
    ·exact h0
    ·rw[List.getElem?_eq_none (by simp;omega)]at A;simp at A
   rw[this]at A;have E:i=n:=by omega
   subst E;simp at A;subst A;exact J
theorem Ae{S:Sg}{b sz:Nat}{α:Type}{enc:α->List AV}(A:∀x,(enc x).length=sz):∀(l:List α) (o:Nat),(∀i x,l[i]?=some x->cE S w b (o+i*sz) (enc x))->fK S w b sz o (l.map enc)
 | [],_,_=>by simp[fK]
 | x::r,o,h=>by
  simp only[List.map_cons,fK];refine⟨A x,by simpa using h 0 x rfl,Ae A r (o+sz) fun i y E=>?_⟩;have:=h (i+1) y (by simpa using E)
  rwa [show o+(i+1)*sz=o+sz+i*sz by rw[Nat.add_mul];omega]at this
theorem Bw{a:Addr}{n:Nat}{cs:List Value}(h:w.cells? 0 a n=some cs):cs.length=n/\∀j,j<n->w.cell? (a.add j)=cs[j]?:=by unfold World.cells? at h;rw[if_pos (Nat.zero_le _)]at h;have E:=mapM_some_length h;exact⟨by simpa using E,fun j A=>mapM_some_get h j j (by simp[A])⟩
theorem oZ{α:Type}{enc:α->List AV}{b:Nat->α->Prop}{et:TypeId}{sz:Nat}(ht:P.underlying t=some (.slice et))(hc:P.cellsOf et=sz)(E:0<sz)(Y:∀x,(enc x).length=sz)(hr:Rd e (BK H) P w et enc b):
  Rd e (BK H) P w t (fun l:List α=>[.sl (l.map enc)]) (bL b):=by
 intro ai cs y h;rcases DataW.trod_slice ht h with⟨rfl,rfl⟩|⟨a,len,cap,A,rest,n,rfl,rfl,rfl,_,aa,T,ag,J,ak,_⟩
 ·refine⟨[],⟨?_,by simp[Value.oneCell']⟩,fun n _=>⟨by simp,by simp⟩⟩;simp only[aW,rep,List.map_nil];exact⟨_,_,rfl,⟨none,0,0,rfl,rfl,Nat.le_refl _,Nat.zero_le _,by simp⟩,rfl⟩
 ·have hp : ∀ i, i < len -> ∃ x : α, ∃ z cs', A[i]? = some z /\ w.cells? 0 (a.add (i * sz)) sz = some cs' /\ (aW (Sw w) w (enc x) cs' /\ ∀ u ∈ cs', u.oneCell' = true) /\ ∀ n, BK H z.1 <= n -> b n x := fun i hi => by have hg:=J i hi;rw[List.getElem?_eq_getElem (by omega),hc,Option.bind_eq_some_iff]at hg;obtain⟨cs',h1,h2⟩:=hg;obtain⟨x,M,I⟩:=hr _ _ _ h2;exact⟨x,_,cs',List.getElem?_eq_getElem (by omega),h1,M,I⟩
  obtain⟨l,hl,U⟩:=Lr len _ hp;refine⟨l,⟨?_,by simp[Value.oneCell']⟩,fun m hm=>⟨?_,fun x M=>?_⟩⟩
  ·simp only[aW];refine⟨_,_,rfl,?_,rfl⟩;simp only[rep];refine⟨some a,len,cap,rfl,by simp[hl],aa,T,?_⟩;rcases Nat.eq_zero_or_pos len with h0|h0
   ·left;rw[List.eq_nil_of_length_eq_zero (hl.trans h0)];rfl
   ·right;have af:=hp 0 h0;obtain⟨_,_,al,_,O,_⟩:=af;have q:=(Bw O).2 0 E;have ae:=(Bw O).1;rw[List.getElem?_eq_getElem (by omega)]at q;simp only[Nat.zero_mul,Addr.add,if_true]at q;have F:a.spot=none/\a.block<w.heap.size:=by
     unfold World.cell? at q;split at q
     ·rename_i c _ _ I;split at q
      ·simp at q
      ·rename_i Z;refine⟨by simpa using Z,?_⟩;rcases Nat.lt_or_ge a.block w.heap.size with h|h
       ·exact h
       ·rw[Array.getElem?_eq_none h]at I;simp at I
     ·simp at q
    obtain⟨ab,ao,aj⟩:=a;obtain⟨Z,X⟩:=F;simp only at Z X;subst Z;refine⟨ab,ao,sz,rfl,X,E,Ae Y l ao fun i x M=>?_⟩;obtain⟨z,cs',_,ac,⟨h1,h2⟩,_⟩:=U i x M;refine gF _ cs' _ h1 h2 fun j u hj=>?_
    obtain⟨e1,e2⟩:=Bw ac;have ah:j<sz:=by
     rcases Nat.lt_or_ge j sz with h|h
     ·exact h
     ·rw[List.getElem?_eq_none (by omega)]at hj;simp at hj
    have:=e2 j ah;rw[hj,Addr.add_lit,Addr.add_lit]at this;exact this
  ·rw[hl,<-ag];have h1:=Lq (A.map (·.1));simp only[BK,Go.Proofs.YtkjdacijpeiphaaGreatDoor.Rows.uptoBulk,List.length_map]at hm h1;omega
  ·obtain⟨i,hi⟩:=List.mem_iff_getElem?.1 M;obtain⟨z,cs',hz,_,_,I⟩:=U i x hi;refine I m ?_;have h1:=FD (List.mem_map_of_mem (f:=(·.1)) (List.mem_of_getElem? hz));simp only[BK,Go.Proofs.YtkjdacijpeiphaaGreatDoor.Rows.uptoBulk]at hm h1 |-;omega
theorem fld{A o m:Nat}{cs:List Value}{z:DataW H×List MemPlace}(E:P.cellsOf t=m)(h:DataW.trod e P w 0 (fun _=>true) true A t ((cs.drop o).take (P.cellsOf t))=some z):DataW.trod e P w 0 (fun _=>true) true A t ((cs.drop o).take m)=some z:=E▸h
theorem FL{S:Sg}{a b:List AV}{cs:List Value}{o m:Nat}(h:aW S w a ((cs.drop o).take m))(A:aW S w b (cs.drop (o+m))):aW S w (a++b) (cs.drop o):=by
 have:=cJ a b _ _ h A
 rwa [<-List.drop_drop,List.take_append_drop]at this
theorem Uk{S:Sg}{cs:List Value}{o:Nat}(h:cs.length=o):aW S w [] (cs.drop o):=by rw[List.drop_eq_nil_of_le (by omega)];simp[aW]
theorem LO{cs:List Value}{o m:Nat}(h:∀u∈(cs.drop o).take m,u.oneCell'=true)(E:∀u∈cs.drop (o+m),u.oneCell'=true):∀u∈cs.drop o,u.oneCell'=true:=by
 intro u A;rw[<-List.take_append_drop m (cs.drop o),List.drop_drop]at A;rcases List.mem_append.1 A with A|A
 ·exact h u A
 ·exact E u A
theorem Yf{cs:List Value}{o:Nat}(h:cs.length=o):∀u∈cs.drop o,u.oneCell'=true:=by rw[List.drop_eq_nil_of_le (by omega)];simp
theorem Nq{xs:List (DataW H×List MemPlace)}{i:Nat}{z:DataW H×List MemPlace}(A:xs[i]?=some z){n:Nat}(h:BK H (.agg (xs.map (·.1)))<=n):BK H z.1<=n:=by have h1:=FD (List.mem_map_of_mem (f:=(·.1)) (List.mem_of_getElem? A));simp only[BK,Go.Proofs.YtkjdacijpeiphaaGreatDoor.Rows.uptoBulk]at h h1 |-;omega
theorem TK{α:Type}{xs:List α}{n i:Nat}(h:xs.length=n)(A:i<n):∃z,xs[i]?=some z:=⟨xs[i],List.getElem?_eq_getElem (by omega)⟩
def RdL(e:TypeId×Value->H)(P:Program)(w:World)(T:TypeId)(fs:Array Field)(i o:Nat){α:Type}(enc:α->List AV)(b:Nat->α->Prop):Prop:=
 ∀(n:Nat) (cs:List Value) (xs:List (DataW H×List MemPlace)),cs.length=P.cellsOf T->xs.length=fs.size ->
   (∀(j:Nat) (f:Field),fs[j]?=some f->DataW.trod e P w 0 (fun _=>true) true n f.type ((cs.drop f.offset).take (P.cellsOf f.type))=xs[j]?) ->
   ∃x:α,(aW (Sw w) w (enc x) (cs.drop o)/\∀u∈cs.drop o,u.oneCell'=true)/\∀m,BK H (.agg (xs.map (·.1)))<=m->b m x
theorem rdF{fs:Array Field}{i o:Nat}{t:TypeId}(m:Nat){α:Type}{enc:α->List AV}{b:Nat->α->Prop}(R:Rd e (BK H) P w t enc b)(O:(fs[i]?).map (fun f:Field=>(f.type,f.offset))=some (t,o))(I:P.cellsOf t=m)
  {n:Nat} {cs:List Value} {xs:List (DataW H×List MemPlace)} (J:xs.length=fs.size) (M:∀(j:Nat) (f:Field),fs[j]?=some f->DataW.trod e P w 0 (fun _=>true) true n f.type ((cs.drop f.offset).take (P.cellsOf f.type))=xs[j]?):
  ∃x:α,(aW (Sw w) w (enc x) ((cs.drop o).take m)/\∀u∈(cs.drop o).take m,u.oneCell'=true)/\∀m,BK H (.agg (xs.map (·.1)))<=m->b m x:=by
 obtain⟨f,A,E⟩:=Option.map_eq_some_iff.1 O;obtain⟨rfl,rfl⟩:=Prod.mk.inj E;obtain⟨z,F⟩:=TK J (Array.getElem?_eq_some_iff.1 A).1;obtain⟨x,h,T⟩:=R n ((cs.drop f.offset).take m) z (fld I ((M i f A).trans F));exact⟨x,h,fun k U=>T k (Nq F U)⟩
theorem rdC{T:TypeId}{fs:Array Field}{i o:Nat}{t:TypeId}(m:Nat){α E:Type}{enc:α->List AV}{b:Nat->α->Prop}{A:E->List AV}{J:Nat->E->Prop}(R:Rd e (BK H) P w t enc b)(r:RdL e P w T fs (i+1) (o+m) A J)
  (Y:(fs[i]?).map (fun f:Field=>(f.type,f.offset))=some (t,o):=by rfl) (O:P.cellsOf t=m:=by kernel_rfl):RdL e P w T fs i o (fun p:α×E=>enc p.1++A p.2) (fun n p=>b n p.1/\J n p.2):=fun n cs xs h1 F I=>by
 obtain⟨x,⟨X,o1⟩,Z⟩:=rdF m R Y O F I;obtain⟨y,⟨r2,o2⟩,U⟩:=r n cs xs h1 F I;exact⟨(x,y),⟨FL X r2,LO o1 o2⟩,fun k M=>⟨Z k M,U k M⟩⟩
theorem rdE{T:TypeId}{fs:Array Field}{i o:Nat}{t:TypeId}(m:Nat){α:Type}{enc:α->List AV}{b:Nat->α->Prop}(R:Rd e (BK H) P w t enc b)
  (M:(fs[i]?).map (fun f:Field=>(f.type,f.offset))=some (t,o):=by rfl) (F:P.cellsOf t=m:=by kernel_rfl) (A:P.cellsOf T=o+m:=by kernel_rfl):RdL e P w T fs i o enc b:=fun n cs xs h1 E J=>by
 obtain⟨x,⟨I,U⟩,O⟩:=rdF m R M F E J;refine⟨x,⟨?_,LO U (Yf (h1.trans A))⟩,O⟩;have:=FL I (Uk (h1.trans A))
 rwa [List.append_nil]at this
theorem rdS{T:TypeId}{fs:Array Field}{α X:Type}{enc:α->List AV}{b:Nat->α->Prop}{A:X->List AV}{J:Nat->X->Prop}(Y:P.underlying T=some (.struct fs))(r:RdL e P w T fs 0 0 enc b)(F:α->X)
  (he:∀p,A (F p)=enc p) (hb:∀n p,b n p->J n (F p)):Rd e (BK H) P w T A J:=by
 intro I cs y h;obtain⟨xs,n,rfl,rfl,Z,E,U⟩:=DataW.trod_struct Y h;obtain⟨x,⟨O,o1⟩,b1⟩:=r n cs xs Z E U;exact⟨F x,⟨by rw[he];rwa [List.drop_zero]at O,by rwa [List.drop_zero]at o1⟩,fun m M=>hb m x (b1 m M)⟩
end
section
open Go.Proofs Go.Proofs.YtkjdacijpeiphaaGreatDoor
variable{H:Type}{e:TypeId×Value->H}{w:World}
theorem XF:Rd e (BK H) Tryz.prog w 23 (fun l:List Int=>[.sl (l.map aQ)]) (bL xL):=oZ (sz:=1) Tryz.underlying23 (by kernel_rfl) (by omega) (fun _=>rfl) (lP Tryz.underlying3)
theorem Wn:Rd e (BK H) Tryz.prog w 74 (fun l:List Bool=>[.sl (l.map dX)]) (bL Ga):=oZ (sz:=1) Tryz.underlying74 (by kernel_rfl) (by omega) (fun _=>rfl) (C7 Tryz.underlying4)
def L7(n:Nat)(x:Visit):Prop:=xL n x.order/\Ga n x.drop
theorem Wo:Rd e (BK H) Tryz.prog w 72 aL L7:=rdS Tryz.underlying72 (rdC 1 (lP Tryz.underlying3) (rdE 1 (C7 Tryz.underlying4))) (fun(a,b)=>⟨a,b⟩) (fun _=>rfl) (fun _ (_,_) h=>h)
theorem RH:Rd e (BK H) Tryz.prog w 73 (fun l:List Visit=>[.sl (l.map aL)]) (bL L7):=oZ (sz:=2) Tryz.underlying73 (by kernel_rfl) (by omega) (fun _=>rfl) (Wo)
def Nw(n:Nat)(x:Route):Prop:=xL n x.type/\xL n x.start/\(bL Ga) n x.rests/\(bL L7) n x.visits
theorem VU:Rd e (BK H) Tryz.prog w 76 bI Nw:=rdS Tryz.underlying76 (rdC 1 (lP Tryz.underlying3) (rdC 1 (lP Tryz.underlying3) (rdC 1 Wn (rdE 1 RH)))) (fun(a,b,c,d)=>⟨a,b,c,d⟩) (fun _=>rfl) (fun _ (_,_,_,_) h=>h)
theorem SQ:Rd e (BK H) Tryz.prog w 22 (fun l:List Route=>[.sl (l.map bI)]) (bL Nw):=oZ (sz:=4) Tryz.underlying22 (by kernel_rfl) (by omega) (fun _=>rfl) (VU)
def YU(n:Nat)(x:Plan):Prop:=(bL Nw) n x.routes/\(bL xL) n x.unserved
theorem Yx:Rd e (BK H) Tryz.prog w 25 gL YU:=rdS Tryz.underlying25 (rdC 1 SQ (rdE 1 XF)) (fun(a,b)=>⟨a,b⟩) (fun _=>rfl) (fun _ (_,_) h=>h)
def aaP(n:Nat)(x:Cut):Prop:=xL n x.kind/\xL n x.set/\xL n x.n
theorem ZJ:Rd e (BK H) Tryz.prog w 104 eC aaP:=rdS Tryz.underlying104 (rdC 1 (lP Tryz.underlying3) (rdC 1 (lP Tryz.underlying3) (rdE 1 (lP Tryz.underlying3)))) (fun(a,b,c)=>⟨a,b,c⟩) (fun _=>rfl) (fun _ (_,_,_) h=>h)
theorem X0:Rd e (BK H) Tryz.prog w 30 (fun l:List Cut=>[.sl (l.map eC)]) (bL aaP):=oZ (sz:=3) Tryz.underlying30 (by kernel_rfl) (by omega) (fun _=>rfl) (ZJ)
theorem Xr:Rd e (BK H) Tryz.prog w 31 (fun l:List ByteArray=>[.sl (l.map dB)]) (bL XL):=oZ (sz:=1) Tryz.underlying31 (by kernel_rfl) (by omega) (fun _=>rfl) (Zt Tryz.underlying54)
def FF(n:Nat)(x:Decision):Prop:=xL n x.kind/\xL n x.a/\xL n x.b/\xL n x.n
theorem Ls:Rd e (BK H) Tryz.prog w 33 aM FF:=rdS Tryz.underlying33 (rdC 1 (lP Tryz.underlying3) (rdC 1 (lP Tryz.underlying3) (rdC 1 (lP Tryz.underlying3) (rdE 1 (lP Tryz.underlying3))))) (fun(a,b,c,d)=>⟨a,b,c,d⟩) (fun _=>rfl) (fun _ (_,_,_,_) h=>h)
def NK(n:Nat)(x:TNode):Prop:=Ga n x.leaf/\xL n x.kind/\(bL aaP) n x.cuts/\(bL XL) n x.dual/\FF n x.choice/\xL n x.yes/\xL n x.no
theorem UU:Rd e (BK H) Tryz.prog w 35 aY NK:=rdS Tryz.underlying35 (rdC 1 (C7 Tryz.underlying4) (rdC 1 (lP Tryz.underlying3) (rdC 1 X0 (rdC 1 Xr (rdC 4 Ls (rdC 1 (lP Tryz.underlying3) (rdE 1 (lP Tryz.underlying3)))))))) (fun(a,b,c,d,e,f,g)=>⟨a,b,c,d,e,f,g⟩) (fun _=>rfl) (fun _ (_,_,_,_,_,_,_) h=>h)
theorem Su:Rd e (BK H) Tryz.prog w 26 (fun l:List TNode=>[.sl (l.map aY)]) (bL NK):=oZ (sz:=10) Tryz.underlying26 (by kernel_rfl) (by omega) (fun _=>rfl) (UU)
def UZ(n:Nat)(x:Proof):Prop:=Ga n x.noPlan/\YU n x.plan/\(bL NK) n x.nodes
theorem UN:Rd e (BK H) Tryz.prog w 28 cY UZ:=rdS Tryz.underlying28 (rdC 1 (C7 Tryz.underlying4) (rdC 2 Yx (rdE 1 Su))) (fun(a,b,c)=>⟨a,b,c⟩) (fun _=>rfl) (fun _ (_,_,_) h=>h)
end
end Go.Aw.D
end
section
namespace Go.Proofs.YtkjdacijpeiphaaGreatDoor
open Go.Aw Go.Aw.D Go.Proofs Go.RowKit Go.ChangeShapes Go.WideShapes Go.ChangeAt
section
variable{H:Type}{e:TypeId×Value->H}{P:Program}{W W':World}
theorem KD{f:FuncId}{args:List AV}{vals:List Value}(h:PC P f args (.v (.bool true)))(I:Hs W)(M:aW (Sw W) W args vals):
  Calls P f vals.toArray W fun E W'=>E=.returned (.bool true)/\Below W.heap.size W W':=
 (h (Sw W) W vals (abZ W I) (fun _ h=>h) M).mono fun E W' ⟨v,r,H',S',O,J,_,F,A,_⟩=>by subst J;simp only[rep]at F;subst F;exact⟨O,A.os,A.tape,A.output,A.size,A.same⟩
theorem Ai(J:laidOutB P=true)(M:Below W.heap.size W W'):∀{E:List TypeId} {vs:List Value} {ds:List (DataW H)} {ps:List MemPlace},(∀t∈E,P.readableRec t=true/\t<P.types.size) ->
  DataW.TrodAll e P W 0 (fun _=>true) true E vs ds ps->(∀x∈ps,x.block<W.heap.size)->∀F:Nat->Bool,(∀x∈ps,F x.block=true)->DataW.TrodAll e P W' 0 F true E vs ds ps
 | [],[],[],_,_,h,_,_,_=>h
 | t::E,v::vs,d::ds,ps,ht,⟨p,q,h1,h2,he⟩,hlt,F,hs=>by
  subst he;have h0:=ht t (by simp);exact⟨p,q,WideElems.Trod_stays J h0.1 h0.2 h1 (fun x A=>M.same (hlt x (by simp[A]))) (fun x A=>hs x (by simp[A])),
   Ai J M (fun t I=>ht t (by simp[I])) h2 (fun x A=>hlt x (by simp[A])) F (fun x A=>hs x (by simp[A])),rfl⟩
theorem OX{t:TypeId}{fs:Array Field}{α:Type}{enc:α->List AV}{b:Nat->α->Prop}{r:Reach}{F:Nat}{v:Value}{d:DataW H}{O:List MemPlace}(T:P.underlying t=some (.struct fs))
  (U:Rd e (BK H) P W t enc b) (A:Value.okWide P W r F t v) (J:DataW.Trod e P W 0 (fun _=>true) true t v d O):∃x:α,rep (Sw W) W (.agg (enc x)) v/\∀n,BK H d<=n->b n x:=by
 obtain⟨cs,rfl,_⟩:=okWide_struct T A;obtain⟨E,h⟩:=J;obtain⟨x,⟨h1,I⟩,M⟩:=U E _ _ h;refine⟨x,?_,M⟩;simp only[rep];exact⟨cs.toList,by simp,h1,I⟩
theorem Sh{fn:Func}{s:ChangeSpec}{args:Array Value}{ds gs:List (DataW H)}{before:List MemPlace}(hl:laidOutB P=true)(ae:∀t∈fn.params.toList,P.readableRec t=true/\t<P.types.size)
  (A:s.vars=[]) {tb:TypeId} (U:P.underlying tb=some .bool) (M:fn.resultTypes=#[tb]) (hW:DataW.Whole e P fn.params.toList s.vars false W args.toList ds gs before)
  (T:(s.fn H (ds++gs)).results=[.lit (.bool true)]) (J:(s.fn H (ds++gs)).args=ds) (Z:(s.fn H (ds++gs)).vars=[]) (Y:Below W.heap.size W W'):
  s.post e P fn false true false false W args (.bool true) W':=by
 have I:=hW.lt;have ab:=hW;obtain⟨p,q,hA,hV,rfl,aa,af⟩:=hW;rw[A]at hV;obtain⟨rfl,rfl⟩:=trodVars_none hV;have hk:W.keptBut W' (·∈p++[]):=Y.frame _;have O:∀x∈p++[],(fun b=>decide (b<W.heap.size)) x.block=true:=fun x F=>by simpa using I x F
 have r1:∀(b:Nat) (E:Nat->Bool) (hd:Bool),DataW.TrodAll e P W' b E hd fn.resultTypes.toList ((Value.bool true).resultList fn.resultTypes.size) (s.fn H (ds++[])).results []:=fun b E hd=>by rw[M,T];exact trodAll_cons_mk (shut_bool U _) trodAll_mk0
 have r2:∀E:Nat->Bool,(∀x∈p++[],E x.block=true)->DataW.TrodAll e P W' 0 E true fn.params.toList args.toList (s.fn H (ds++[])).args p:=fun E ac=>by rw[J];exact Ai hl Y ae hA (fun x F=>I x (by simp[F])) E (fun x F=>ac x (by simp[F]))
 have r3:∀E:Nat->Bool,DataW.TrodVars e P W' E s.vars (s.fn H (ds++[])).vars []:=fun E=>by rw[A,Z];simp[DataW.TrodVars]
 refine⟨ds,[],p++[],[],p,[],ab,r1 _ _ _,r2 _ O,r3 _,World.keptBut_mono (fun x F=>⟨F,.inr (by simpa using F)⟩) hk,fun _=>?_⟩;refine⟨?_,_,_,([]++p)++[],⟨[]++p,[],trodAll_append (r2 _ (fun _ _=>rfl)) (r1 _ _ _),r3 _,rfl,?_,?_⟩,?_⟩
 ·exact ok_one M rfl (okWide_bool_mk U _)
 ·intro b off hp;have X:MemPlace.cell b off∈p++[]:=by simpa using hp
  rw[Y.frozen (I _ X)];exact aa b off X
 ·intro ha;simp at ha
 ·intro x F _;simpa using F
end
end Go.Proofs.YtkjdacijpeiphaaGreatDoor
end
section
namespace Go.Proofs.YtkjdacijpeiphaaGreatDoor
def bZ(n N:Int):Bool:=decide (n<0)||decide (n>=N)
end Go.Proofs.YtkjdacijpeiphaaGreatDoor
namespace Go.Proofs.YtkjdacijpeiphaaGreatDoor.Mv
open Go.Aw Go.Aw.D Go.Proofs Ty
def bP{H:aG}{k:IntKind}{a b:Int}(h:a=b):Conv H (.v (.int k a)) (.v (.int k b)):=h▸.refl _
def cK{H:aG}{a b:Bool}(h:a=b):Conv H (.v (.bool a)) (.v (.bool b)):=h▸.refl _
abbrev fG(l:List Int):Row:=⟨3,1,l.map aQ⟩
def TQ{n:Int}(h:0<=n/\n<18446744073709551616):IntKind.u64.wrap n=n:=by have e:IntKind.u64.wrap n=n%18446744073709551616:=rfl;rw[e];omega
def aR{α:Type}{p:α->Prop}{l:List α}{k:Nat}{x:α}(F:l[k]?=some x)(E:p x)(h:∀x∈l.take k,p x):∀x∈l.take (k+1),p x:=by
 rw[aZ F];intro y A;rcases Xas.1 A with A|A
 ·exact h y A
 ·simp at A;subst A;exact E
end Go.Proofs.YtkjdacijpeiphaaGreatDoor.Mv
end
section
namespace Go.Proofs.YtkjdacijpeiphaaGreatDoor.Sq
open Go.Aw Go.Aw.D Go.Proofs Ty
open Mv (bP cK aR)
def WK(s i:Int):Bool:=decide (s>=0)&&decide (i>=0)&&decide (i<=62)&&((shV .shr .i64 s (IntKind.u64.wrap i)).tmod 2 == 1)
def WQ(s n:Int):Int:=if WK s n=true then s else IntKind.i64.wrap (s+shV .shl .i64 1 (IntKind.u64.wrap n))
def Ft(v:Visit):Bool:=decide (v.order<0)||decide (v.order>62)
def Zh(l:List Visit):Int:=l.foldl (fun s v=>WQ s v.order) 0
def lX(l:List Visit):Int×Int:=if l.any Ft=true then(0,2)else(Zh l,0)
def EG(v u:Visit):Bool:=u.order == v.order&&(u.drop == v.drop&&true)
def oE{α:Type}(p:α->Bool):List α->Int->Int
 | [],_=> -1
 | x::r,n=>if p x=true then n else oE p r (n+1)
def nF{α:Type}{p:α->Bool}{l:List α}{k:Nat}{x:α}(h:∀y∈l.take k,p y=false)(A:l[k]?=some x)(F:p x=true):∀n,oE p l n=n+k:=by
 induction l generalizing k with
 | nil=>simp at A
 | cons a r ih=>
  intro n;cases k with
  | zero=>simp at A;subst A;simp only[oE];rw[if_pos F];simp
  | succ k=>have h0:=h a (by simp);simp only[oE];rw[if_neg (by rw[h0];simp),ih (k:=k) (fun y E=>h y (by simp[E])) (by simpa using A)];omega
def lD{α:Type}{p:α->Bool}{l:List α}(h:∀y∈l,p y=false):∀n,oE p l n= -1:=by
 induction l with
 | nil=>intro n;rfl
 | cons a r ih=>intro n;simp only[oE];rw[if_neg (by rw[h a (by simp)];simp)];exact ih (fun y A=>h y (by simp[A])) _
def fU(l:List Visit)(v:Visit):Int:=oE (EG v) l 0
def kS(l:List Visit)(j:Nat):Int:=(l.getD j ⟨0,false⟩).order
def sU{l:List Visit}{j:Nat}{v:Visit}(h:l[j]?=some v):kS l j=v.order:=by simp[kS,List.getD,h]
def KA(x:Instance)(i:Int):Bool:=match x.orders[i.toNat]? with|some o=>o.off|none=>false
def A7{α:Type}{p:α->Bool}{l:List α}(h:∀x∈l,p x=false):l.any p=false:=by rw[Xbb];intro x A;rw[h x A];simp
def jF(a c:List Int):Bool:=((a.length:Int) == (c.length:Int))&&(List.range a.length).all fun i=> !decide (a.getD i 0>c.getD i 0)
def mA(x:Instance):Int:=match x.types[0]? with|some t=>t.cap.length|none=>0
def qS(l:List Int):List AV:=[.sl (l.map aQ)]
end Go.Proofs.YtkjdacijpeiphaaGreatDoor.Sq
end
section
namespace Go.Proofs.YtkjdacijpeiphaaGreatDoor.Sq
open Go.Aw Go.Aw.D Go.Proofs Ty
open Mv (bP cK aR)
open Mv (bP cK aR)
abbrev abS(ll:List (List Int)):Row:=⟨23,1,ll.map qS⟩
def Kb(x:Instance)(t:Int):List Int:=match x.types[t.toNat]? with|some t=>t.cap|none=>[]
def IT(n:Network)(i:Int):Bool:=decide (i>=0)&&decide (i<(n.places.length:Int))
def AB:Arc:=⟨0,0,0,0,[],[]⟩
def Le(p f t:Int)(a:Arc):Bool:=a.src == f&&a.dst == t&&a.profile == p
def vX(n:Network)(p f t:Int):Option Arc:=n.arcs.find? (Le p f t)
def KC{α:Type}{p:α->Bool}{l:List α}{k:Nat}{x:α}(h:∀y∈l.take k,p y=false)(A:l[k]?=some x)(F:p x=true):l.find? p=some x:=by
 induction l generalizing k with
 | nil=>simp at A
 | cons a r ih=>
  cases k with
  | zero=>simp at A;subst A;simp[List.find?,F]
  | succ k=>have h0:=h a (by simp);rw[List.find?_cons,h0];exact ih (k:=k) (fun y E=>h y (by simp[E])) (by simpa using A)
def GY{α:Type}{p:α->Bool}{l:List α}(h:∀y∈l,p y=false):l.find? p=none:=List.find?_eq_none.2 fun y A=>by rw[h y A];simp
def W(n:Int):Int:=IntKind.i64.wrap n
def nS(l:List Point)(t:Int)(k:Nat):Bool:=decide ((dF l k).t<=t)&&decide (t<(dF l (k+1)).t)
def OW(p q:Point)(t:Int):Int:=W (p.a+IntKind.i64.wrap (Int.tdiv (W (W (W (W (W (t-p.t)*W (q.a-p.a))+q.t)-p.t)-1)) (W (q.t-p.t))))
def AE(e:Point)(t:Int):Int:=W (W (t+e.a)-e.t)
def BI(l:List Point)(t:Int):Bool:=decide (((qV l).length:Int)>0)||decide (t<0)||decide (t>1073741824)
def lL(l:List Point)(t:Int):Int:=
 if BI l t=true then 0 else match (List.range (l.length-1)).find? (nS l t)with
 | some k=>OW (dF l k) (dF l (k+1)) t
 | none=>if decide (t>(dF l 0).t)=true then AE (dF l (l.length-1)) t else AE (dF l 0) t
def XS{n:Int}(h:0<n/\n<18446744073709551616):¬IntKind.i64.wrap n=0:=by
 show ¬(if(true&&decide (n%18446744073709551616>=9223372036854775808))=true then n%18446744073709551616-18446744073709551616 else n%18446744073709551616)=0;by_cases h1:n%18446744073709551616>=9223372036854775808
 ·rw[if_pos (by simpa using h1)];omega
 ·rw[if_neg (by simpa using h1)];omega
end Go.Proofs.YtkjdacijpeiphaaGreatDoor.Sq
end
section
namespace Go.Proofs.YtkjdacijpeiphaaGreatDoor.Sq
open Go.Aw Go.Aw.D Go.Proofs Ty
open Mv (bP cK aR)
def Ce(t:Int)(s:Int)(p:Point):Int:=if decide (p.t<=t)=true then W (s+p.a)else s
def EP(a:Arc)(t:Int):Int:=a.slow.foldl (Ce t) (lL a.travel t)
def iD(n:Network)(p f t time:Int):Int×Int×Int:=
 if(!IT n f|| !IT n t)=true then(0,0,11)else if(f == t)=true then(time,0,0)
 else match vX n p f t with|some a=>(EP a time,a.miles,0)|none=>(0,0,12)
structure Score where
 cost:Int
 moved:Int
 other:Int
 work:Int
def aV(s:Score):List AV:=[int s.cost,int s.moved,int s.other,int s.work]
def rU(a b:Score):Score:=⟨W (a.cost+b.cost),W (a.moved+b.moved),W (a.other+b.other),W (a.work+b.work)⟩
def sJ(l:List Visit)(n:Nat):Bool:=(List.range n).all fun i=> !(kS l i == kS l n)
def bB:Score:=⟨0,0,0,0⟩
def fB(o:Order):Score×Int:=if o.off=true then(bB,9)else if(o.penalty == -1)=true then(bB,23)else(⟨o.penalty,if(o.now != -1)=true then 1 else 0,0,0⟩,0)
def cD(x:Instance)(k:Int):Score×Int:=if bZ k x.orders.length=true then(bB,2)else match x.orders[k.toNat]? with|some o=>fB o|none=>(bB,2)
def kU:Stop:=⟨0,0,0,0⟩
def uM(o:Order)(v:Visit):Stop:=if v.drop=true then o.drop else o.pick
def iA(x:Instance)(v:Visit):Stop×Bool:=if bZ v.order x.orders.length=true then(kU,false)else
 match x.orders[v.order.toNat]? with
 | some o=>(uM o v,decide ((uM o v).place>=0))
 | none=>(kU,false)
def fE(x:Instance)(r:Route):Bool:=
 !(bZ r.type x.types.length||decide (r.start<0)||decide (r.start>4096)||decide ((r.visits.length:Int)>20))&&r.visits.all fun v=>(iA x v).2
structure Tm where
 arrive:Int
 begin_:Int
 depart:Int
 rest:Bool
def oT(t:Tm):List AV:=[int t.arrive,int t.begin_,int t.depart,boo t.rest]
def Sf(s:Tm):(oT s).length=4:=(rfl)
def QH(s:Tm):(oT s).take 4=oT s:=(rfl)
attribute [go_sem] Sf QH
structure Sheet where
 rest:Bool
 depart:Int
 times:List Tm
 end_:Int
 miles:Int
def bQ(s:Sheet):List AV:=[boo s.rest,int s.depart,.sl (s.times.map oT),int s.end_,int s.miles]
def bV:Sheet:=⟨false,0,[],0,0⟩
def xT{x:Instance}{r:Route}(h:fE x r=true):0<=r.type/\r.type<(x.types.length:Int):=by unfold fE at h;simp only[Xap,Xbh,Xaj,bZ,decide_eq_false_iff_not]at h;omega
def YJ{H:aG}{i j:Nat}{r:Row}{a b:Option Row}(A:H i=some r)(E:H j=none):aI (aI H j a) j b i=some r:=by have h1:=bC A E;rw[aD _ _ _ _ h1,aD _ _ _ _ h1,A]
def YV{H:aG}{i j:Nat}{r:Row}{b:Option Row}(A:H i=some r)(h1:i≠j):aI H j b i=some r:=by rw[aD _ _ _ _ h1,A]
def TP{H:aG}{i j:Nat}{r r':Row}(E:H i=some r)(A:H j=some r')(h:(r.e == r'.e)=false):i≠j:=fun e=>by subst e;rw[E]at A;injection A with A;rw[A]at h;simp at h
abbrev wW(s:Stop):Row:=⟨56,4,[dQ s]⟩
abbrev Cn(l:List Tm):Row:=⟨280,4,l.map oT⟩
abbrev tJ(l:List Int):Row:=⟨3,1,l.map aQ⟩
abbrev fA(cs:List AV):Row:=⟨120,5,[cs]⟩
abbrev zeroCells:List AV:=[boo false,int 0,.sl [],int 0,int 0]
abbrev X3(l:List Bool):Row:=⟨4,1,l.map dX⟩
def Bu(r:Route):List Bool:=r.rests++List.replicate (r.visits.length+1-r.rests.length) false
def dZ(s:Sheet):(bQ s).length=5:=(rfl)
def yP(s:Sheet):(bQ s).getD 3 .any=int s.end_:=(rfl)
def yR(s:Sheet):(bQ s).getD 4 .any=int s.miles:=(rfl)
def tE(s:Sheet):(bQ s).take 5=bQ s:=(rfl)
attribute [go_sem] yP yR tE
def M7{a:List Bool}{n:Nat}(h:a.length<=n):((List.replicate n [boo false]).take 0++(a.map dX).take (min (a.map dX).length (List.replicate n [boo false]).length))++(List.replicate n [boo false]).drop (0+min (a.map dX).length (List.replicate n [boo false]).length)=(a++List.replicate (n-a.length) false).map dX:=by
 have e:min (a.map dX).length (List.replicate n [boo false]).length=a.length:=by simp;omega
 rw[e,List.take_zero,Xbo,Nat.zero_add,Xam (by simp),List.drop_replicate,Xak,List.map_replicate];rfl
def bR(s:Score):(aV s).length=4:=(rfl)
def tT(s:Score):(aV s).getD 0 .any=int s.cost:=(rfl)
def tG(s:Score):(aV s).getD 1 .any=int s.moved:=(rfl)
def tU(s:Score):(aV s).getD 2 .any=int s.other:=(rfl)
def uA(s:Score):(aV s).getD 3 .any=int s.work:=(rfl)
def nY(s:Score):(aV s).take 4=aV s:=(rfl)
attribute [go_sem] dZ bR tT tG tU uA nY
abbrev lC(s:Score):Row:=⟨99,4,[aV s]⟩
def OC(o:Order)(t:Int):Bool:=o.now != -1&&o.now != t
def Oq(o:Order)(t:Int):Bool:=o.last != -1&&o.last != t
def DN(o:Order)(t:Int)(a:Score):Score:=if OC o t=true then⟨a.cost,W (a.moved+1),a.other,a.work⟩else a
def DJ(o:Order)(t:Int)(a:Score):Score:=if Oq o t=true then⟨a.cost,a.moved,W (a.other+1),a.work⟩else a
def jC(x:Instance)(r:Route)(a:Score)(i:Nat):Score:=
 if(bZ (kS r.visits i) x.orders.length|| !sJ r.visits i)=true then a
 else match x.orders[(kS r.visits i).toNat]? with
 | some o=>DJ o r.type (DN o r.type a)
 | none=>a
def BD(t:VType)(s:Sheet):Score:=
 ⟨W (W (t.fixed+W (t.perMile*s.miles))+W (t.perTick*W (s.end_-t.start))),0,0,
   W (W (Int.tdiv (W (s.end_-t.start)) 64)*W (Int.tdiv (W (s.end_-t.start)) 64))⟩
def Vc(x:Instance)(r:Route)(s:Sheet)(t:VType):Score:=(List.range r.visits.length).foldl (jC x r) (BD t s)
def qR(x:Instance)(r:Route)(s:Sheet):Score:=
 if bZ r.type x.types.length=true then bB else match x.types[r.type.toNat]? with
 | some t=>Vc x r s t
 | none=>bB
structure PlanB(p:Plan):Prop where
 routes:p.routes.length<=1048576
 visits:∀r∈p.routes,r.visits.length<=1048576
 unserved:p.unserved.length<=1048576
def yY{P:Program}{C:jI}{PC:FuncId->List AV->aG->AV->Prop}{mt:Nat->Bool}{ops:Array Oper}{K:Env->aG->Prop}{m:Nat}{ρ:Env}{H:aG}(J:Env->aG->Prop)(h1:∀ρ H,J ρ H->K ρ H)
 (A:∀K':Env->aG->Prop,(∀ρ H,J ρ H->K' ρ H)->qF P C PC mt ops K' m ρ H):qF P C PC mt ops K m ρ H:=A K h1
end Go.Proofs.YtkjdacijpeiphaaGreatDoor.Sq
end
section
namespace Go.Proofs.YtkjdacijpeiphaaGreatDoor.Sq
open Go.Proofs.Tryz
open Go.Aw Go.Aw.D Go.Proofs Ty
open Mv (bP cK aR)
def mX{α:Type}{p:α->Bool}:∀(l:List α) (n:Int),0<=n->decide (oE p l n>=0)=l.any p
 | [],n,_=>rfl
 | a::r,n,hn=>by
  have ih:=mX (p:=p) r (n+1) (by omega);rw[Xao]at ih |-;simp only[decide_eq_true_eq]at ih |-;rw[List.any_cons,Bool.or_eq_true,<-ih];by_cases h:p a=true
  ·rw[show oE p (a::r) n=n from if_pos h];exact⟨fun _=>.inl h,fun _=>hn⟩
  ·rw[show oE p (a::r) n=oE p r (n+1)from if_neg h];exact⟨fun x=>.inr x,fun x=>x.resolve_left h⟩
def Ho(l:List Int):(qS l).length=1:=(rfl)
def S9(l:List Int):(qS l).getD 0 .any=.sl (l.map aQ):=(rfl)
attribute [go_sem] Ho S9
def zW{g:Nat}{cap:List AV}{p:Visit->Bool}(l:List (Visit))(Z:l.length<=1048576)(T:aH prog g=true)(U:∀v∈l,PC prog g (.agg (aL v)::cap) (boo (p v))):
  PC prog 141 [.sl (l.map aL),.fn g cap] (int (oE p l 0)):=by
 refine pcd func141 rfl rfl ?_;simp only[go_sem];refine⟨fun ρ _=>∃k:Nat,k<=l.length/\ρ 0=.sl (l.map aL)/\ρ 1=.fn g cap/\ρ 7=int l.length/\ρ 8=int k/\∀u∈l.take k,p u=false,fun ρ _=>l.length-aU (ρ 8),⟨0,Xab _,rfl,rfl,rfl,rfl,by simp⟩,?_⟩;rintro ρ H ⟨k,Y,h0,h1,J,F,I⟩;simp only[go_sem,h0,h1,J,F];refine aA (fun A=>?_) (fun E=>?_)
 ·have A:=bU A;obtain⟨u,M⟩:=aO A;have X:=inB A;simp only[go_sem,h0,h1,J,F,aC M,X,T];refine aP (U u (Xac M)) ?_;simp only[go_sem,h0,h1,J,F];refine aA (fun O=>?_) (fun O=>?_)
  ·simp only[go_sem,F];exact bP (by rw[nF I M O];omega)
  ·simp only[go_sem,h0,h1,J,F,aT k];exact⟨⟨k+1,A,rfl,aR (p:=fun u=>p u=false) M O I⟩,by simp only[aF];omega⟩
 ·have E:=bW Y E;subst E;rw[Xad]at I;simp only[go_sem];exact bP (by rw[lD I])
def nL{g:Nat}{cap:List AV}{p:Visit->Bool}(l:List (Visit))(F:l.length<=1048576)(A:aH prog g=true)(E:∀v∈l,PC prog g (.agg (aL v)::cap) (boo (p v))):
  PC prog 94 [.sl (l.map aL),.fn g cap] (boo (l.any p)):=by
 refine pcd func94 rfl rfl ?_;simp only[go_sem];refine aP (zW l F A E) ?_;simp only[go_sem];exact cK (mX l 0 (Xbs _))
def Hy{g:Nat}{cap:List AV}{p:List Int->Bool}(l:List (List Int))(Z:l.length<=1048576)(T:aH prog g=true)(U:∀v∈l,PC prog g (.sl (v.map aQ)::cap) (boo (p v))):
  PC prog 150 [.sl (l.map qS),.fn g cap] (int (oE p l 0)):=by
 refine pcd func150 rfl rfl ?_;simp only[go_sem];refine⟨fun ρ _=>∃k:Nat,k<=l.length/\ρ 0=.sl (l.map qS)/\ρ 1=.fn g cap/\ρ 7=int l.length/\ρ 8=int k/\∀u∈l.take k,p u=false,fun ρ _=>l.length-aU (ρ 8),⟨0,Xab _,rfl,rfl,rfl,rfl,by simp⟩,?_⟩;rintro ρ H ⟨k,Y,h0,h1,J,F,I⟩;simp only[go_sem,h0,h1,J,F];refine aA (fun A=>?_) (fun E=>?_)
 ·have A:=bU A;obtain⟨u,M⟩:=aO A;have X:=inB A;simp only[go_sem,h0,h1,J,F,aC M,X,T];refine aP (U u (Xac M)) ?_;simp only[go_sem,h0,h1,J,F];refine aA (fun O=>?_) (fun O=>?_)
  ·simp only[go_sem,F];exact bP (by rw[nF I M O];omega)
  ·simp only[go_sem,h0,h1,J,F,aT k];exact⟨⟨k+1,A,rfl,aR (p:=fun u=>p u=false) M O I⟩,by simp only[aF];omega⟩
 ·have E:=bW Y E;subst E;rw[Xad]at I;simp only[go_sem];exact bP (by rw[lD I])
def C0{g:Nat}{cap:List AV}{p:List Int->Bool}(l:List (List Int))(F:l.length<=1048576)(A:aH prog g=true)(E:∀v∈l,PC prog g (.sl (v.map aQ)::cap) (boo (p v))):
  PC prog 103 [.sl (l.map qS),.fn g cap] (boo (l.any p)):=by
 refine pcd func103 rfl rfl ?_;simp only[go_sem];refine aP (Hy l F A E) ?_;simp only[go_sem];exact cK (mX l 0 (Xbs _))
def P0(l:List Visit)(v:Visit)(Z:l.length<=1048576):PC prog 183 [.sl (l.map aL),.agg (aL v)] (int (fU l v)):=by
 refine pcd func183 rfl rfl ?_;simp only[go_sem];refine⟨fun ρ _=>∃k:Nat,k<=l.length/\ρ 0=.sl (l.map aL)/\ρ 3=.rp (aL v) 0/\ρ 7=int l.length/\ρ 8=int k/\∀u∈l.take k,EG v u=false,fun ρ _=>l.length-aU (ρ 8),⟨0,Xab _,rfl,rfl,rfl,rfl,by simp⟩,?_⟩;rintro ρ H ⟨k,Y,h0,J,O,I,M⟩;simp only[go_sem,h0,J,O,I];refine aA (fun A=>?_) (fun E=>?_)
 ·have A:=bU A;obtain⟨u,T⟩:=aO A;have X:=inB A;have U:(v.order == u.order&&(v.drop == u.drop&&true))=EG v u:=by unfold EG;rw[show(v.order == u.order)=(u.order == v.order)from Xao.2 (by simp only[beq_iff_eq];exact eq_comm),show(v.drop == u.drop)=(u.drop == v.drop)from by cases v.drop <;> cases u.drop <;> rfl]
  simp only[go_sem,h0,J,O,I];refine dD (by rfl) (by kernel_rfl) ?_;simp only[go_sem,h0,J,O,I,aC T,X];refine aA (fun F=>?_) (fun F=>?_)
  ·have F:EG v u=true:=by rw[<-U];exact F
   simp only[go_sem,I];exact bP (by rw[fU,nF M T F];omega)
  ·have F:EG v u=false:=by rw[<-U];exact F
   simp only[go_sem,h0,J,O,I,aT k];exact⟨⟨k+1,A,rfl,aR (p:=fun u=>EG v u=false) T F M⟩,by simp only[aF];omega⟩
 ·have E:=bW Y E;subst E;rw[Xad]at M;simp only[go_sem];exact bP (by rw[fU,lD M])
def inV(l:List Visit)(v:Visit):Bool:=decide (fU l v>=0)
def No(l:List Visit)(v:Visit)(A:l.length<=1048576):PC prog 143 [.sl (l.map aL),.agg (aL v)] (boo (inV l v)):=by refine pcd func143 rfl rfl ?_;simp only[go_sem];refine aP (P0 l v A) ?_;simp only[go_sem];exact .refl _
def AA(l:List Visit)(v:Visit)(A:l.length<=1048576):PC prog 142 [.sl (l.map aL),.agg (aL v)] (int (fU l v)):=by refine pcd func142 rfl rfl ?_;simp only[go_sem];refine aP (P0 l v A) ?_;simp only[go_sem];exact .refl _
def Ej(l:List Visit)(o:Int):Bool:=l.any fun v=>v.order == o
def ZF(o:Int)(v:Visit):PC prog 144 [.agg (aL v),.rp [int o] 0] (boo (v.order == o)):=by refine pcd func144 rfl rfl ?_;simp only[go_sem];exact .refl _
def RA(o:Int)(v:Visit):PC prog 145 [.agg (aL v),.rp [int o] 0] (boo (v.order == o)):=by refine pcd func145 rfl rfl ?_;simp only[go_sem];exact .refl _
def Cs(l:List Visit)(o:Int)(A:l.length<=1048576):PC prog 99 [.sl (l.map aL),int o] (boo (Ej l o)):=by refine pcd func99 rfl rfl ?_;simp only[go_sem];refine aP (nL (p:=fun v=>v.order == o) l A (by kernel_rfl) (fun v _=>ZF o v)) ?_;simp only[go_sem];exact .refl _
def PM(l:List Order)(k:Int):PC prog 158 [.sl (l.map bF),int k] (boo (!bZ k l.length)):=by refine pcd func158 rfl rfl ?_;simp only[go_sem];refine cK ?_;unfold bZ;rw[Xao];simp
def uB{α:Type}{p:α->Bool}{l:List α}{k:Nat}{x:α}(A:l[k]?=some x)(E:p x=false):l.all p=false:=by rw[List.all_eq_false];exact⟨x,Xac A,by simp[E]⟩
def Ax{α:Type}{p:α->Bool}{l:List α}(h:∀x∈l.take l.length,p x=true):l.all p=true:=by rw[Xad]at h;rw[Xal];exact h
def abH(x:Int):pU .and .i64 x 1=x%2:=by
 have h:((BitVec.ofInt 64 x &&& BitVec.ofInt 64 1).toNat:Int)=x%2:=by
  rw[BitVec.toNat_and,BitVec.toNat_ofInt,BitVec.toNat_ofInt];have:((1:Int)%((2^64:Nat):Int)).toNat=1:=by decide
  rw[this,Nat.and_one_is_mod];omega
 refine Eq.trans (congrArg IntKind.i64.wrap h) ?_;exact bE (by omega)
def Dx{a b:Nat}(A:a<2^63)(F:b<2^63):pU .or .i64 (a:Int) (b:Int)=((a ||| b:Nat):Int):=by
 have h:((BitVec.ofInt 64 (a:Int) ||| BitVec.ofInt 64 (b:Int)).toNat:Int)=((a ||| b:Nat):Int):=by
  rw[BitVec.toNat_or,BitVec.toNat_ofInt,BitVec.toNat_ofInt];have h1:((a:Int)%((2^64:Nat):Int)).toNat=a:=by omega
  have E:((b:Int)%((2^64:Nat):Int)).toNat=b:=by omega
  rw[h1,E]
 refine Eq.trans (congrArg IntKind.i64.wrap h) ?_;have:=Nat.or_lt_two_pow A F;exact bE (by omega)
def uH{x:Int}{i:Nat}(h:i<=62):shV .shr .i64 x (i:Int)=x/2^i:=by
 show x.fdiv (2^min ((i:Int)).toNat 64)=_;have:min ((i:Int)).toNat 64=i:=by omega
 rw[this,Int.fdiv_eq_ediv_of_nonneg _ (by exact Int.le_of_lt (Int.pow_pos (by decide)))]
def ED{i:Nat}(h:i<=62):shV .shl .i64 1 (i:Int)=((2^i:Nat):Int):=by
 show IntKind.i64.wrap (1*2^min ((i:Int)).toNat 64)=_;have:min ((i:Int)).toNat 64=i:=by omega
 rw[this,Int.one_mul];have A:(2:Nat)^i<=2^62:=Xaq (by decide) h;have E:((2:Int)^i)=((2^i:Nat):Int):=by norm_cast
 rw[E];generalize 2^i=m at A;exact bE (by omega)
def dC(set i:Int):Bool:=decide (i>=0)&&decide (i<=62)&&((set/2^i.toNat)%2 == 1)
def rC(set i:Int):PC prog 79 [int set,int i] (boo (dC set i)):=by
 refine pcd func79 rfl rfl ?_;simp only[go_sem];refine⟨fun h=>?_,?_⟩
 ·simp at h;omega
 ·refine cK ?_;unfold dC;rw[abH];by_cases h:0<=i/\i<=62
  ·obtain⟨h0,h1⟩:=h;have e:=uH (x:=set) (i:=i.toNat) (by omega);rw[Int.toNat_of_nonneg h0]at e;rw[e]
  ·have:(decide (i>=0)&&decide (i<=62))=false:=by simp;omega
   rw[this];rfl
def AH(l:List Visit):Nat:=l.foldl (fun s v=>s ||| 2^v.order.toNat) 0
def Vn(l:List Visit)(v:Visit):AH (l++[v])=AH l ||| 2^v.order.toNat:=by simp[AH]
def Px{m:Nat}(l:List Visit)(h:∀v∈l,v.order.toNat<m):AH l<2^m:=by
 suffices ∀(l:List Visit) (s:Nat),s<2^m->(∀v∈l,v.order.toNat<m)->l.foldl (fun s v=>s ||| 2^v.order.toNat) s<2^m from this l 0 (Nat.two_pow_pos m) h
 intro l;induction l with
 | nil=>intro s A _;exact A
 | cons v r ih=>intro s A h;rw[List.foldl_cons];exact ih _ (Nat.or_lt_two_pow A (Xbt (by decide) (h v (by simp)))) fun v E=>h v (by simp[E])
def UQ(l:List Visit)(i:Nat):(AH l).testBit i=l.any fun v=>v.order.toNat == i:=by
 suffices ∀(l:List Visit) (s:Nat),(l.foldl (fun s v=>s ||| 2^v.order.toNat) s).testBit i=(s.testBit i||l.any fun v=>v.order.toNat == i)from by have:=this l 0;simpa[AH]using this
 intro l;induction l with
 | nil=>intro s;simp
 | cons v r ih=>intro s;rw[List.foldl_cons,ih,Nat.testBit_or,Nat.testBit_two_pow,List.any_cons,Bool.or_assoc];rfl
def KH{s i:Nat}(h:s.testBit i=true):s ||| 2^i=s:=by
 apply Nat.eq_of_testBit_eq;intro j;rw[Nat.testBit_or,Nat.testBit_two_pow];by_cases e:i=j
 ·subst e;simp[h]
 ·simp[e]
def okV(v:Visit):Bool:= !(decide (v.order<0)||decide (v.order>62))
def jH(l:List Visit):Int×Int:=if l.all okV then(((AH l:Nat):Int),0)else(0,2)
def F9(r:Route)(hr:r.visits.length<=1048576):PC prog 40 [.agg (bI r)] (.tup [int (jH r.visits).1,int (jH r.visits).2]):=by
 refine pcd func40 rfl rfl ?_;simp only[go_sem];refine⟨fun ρ _=>∃k:Nat,k<=r.visits.length/\ρ 8=.sl (r.visits.map aL)/\ρ 9=int r.visits.length/\ρ 10=int k/\ρ 4=int (AH (r.visits.take k):Nat)/\∀v∈r.visits.take k,okV v=true,fun ρ _=>r.visits.length-aU (ρ 10),⟨0,Xab _,rfl,rfl,rfl,rfl,by simp⟩,?_⟩;rintro ρ H ⟨k,hk,X,O,A,M,Z⟩;simp only[go_sem,X,O,A,M];refine aA (fun E=>?_) (fun I=>?_)
 ·have E:=bU E;obtain⟨v,F⟩:=aO E;have Y:=inB E;simp only[go_sem,X,O,A,M,aC F,Y];refine aJ fun j hj=>?_
  simp only[go_sem,X,O,A,M,aC F,Y];refine aN (aB _ _ _) (by simp[cN]) ?_;simp only[go_sem,X,O,A,M,aC F,Y];refine aA (fun hb=>?_) (fun hb=>?_)
  ·simp only[go_sem];have:jH r.visits=(0,2):=by unfold jH;rw[uB F (by unfold okV;rw[hb];rfl)];rfl
   rw[this];exact .refl _
  ·have U:okV v=true:=by unfold okV;rw[hb];rfl
   have T:0<=v.order/\v.order<=62:=by simp[okV]at U;omega
   have J:AH (r.visits.take k)<2^63:=Px _ fun v F=>by have:=Z v F;simp[okV]at this;omega
   have e1:=ED (i:=v.order.toNat) (by omega);rw[Int.toNat_of_nonneg T.1]at e1;have e2:=Dx (a:=AH (r.visits.take k)) (b:=2^v.order.toNat) J (Xbt (by decide) (by omega));simp only[go_sem,X,O,A,M,aC F,Y,e1,e2,aT k];refine⟨T.1,⟨k+1,E,rfl,?_,aR (p:=fun v=>okV v=true) F U Z⟩,by simp only[aF];omega⟩;rw[aZ F,Vn]
 ·have I:=bW hk I;subst I;simp only[go_sem,M];have:jH r.visits=(((AH r.visits:Nat):Int),0):=by unfold jH;rw[Ax Z];rfl
  rw[this,Xad];exact .refl _
def Wp{s i:Nat}(F:s<2^63)(A:i<63)(h:s.testBit i=false):s ||| 2^i=s+2^i:=by
 have E:2^i<2^63:=Xbt (by decide) A;have h0:BitVec.ofNat 64 s &&& BitVec.ofNat 64 (2^i)=0#64:=by
  apply BitVec.eq_of_toNat_eq;rw[BitVec.toNat_and,BitVec.toNat_ofNat,BitVec.toNat_ofNat,Xav (by omega),Xav (by omega)];apply Nat.eq_of_testBit_eq;intro j;rw[Nat.testBit_and,Nat.testBit_two_pow];by_cases e:i=j
  ·subst e;simp[h]
  ·simp[e]
 have h1:=congrArg BitVec.toNat (BitVec.add_eq_or_of_and_eq_zero (BitVec.ofNat 64 s) (BitVec.ofNat 64 (2^i)) h0);rw[BitVec.toNat_add,BitVec.toNat_or,BitVec.toNat_ofNat,BitVec.toNat_ofNat,Xav (by omega:s<2^64),Xav (by omega:2^i<2^64),Xav (by omega)]at h1;exact h1.symm
def BG{n:Int}(h:0<=n/\n<18446744073709551616):IntKind.u64.wrap n=n:=Mv.TQ h
def nI{s:Nat}{i:Int}(h0:0<=i)(h1:i<=62):dC (s:Int) i=s.testBit i.toNat:=by
 rw[Nat.testBit_eq_decide_div_mod_eq];unfold dC;have A:((2:Int)^i.toNat)=((2^i.toNat:Nat):Int):=by norm_cast
 have:((s:Int)/2^i.toNat)=((s/2^i.toNat:Nat):Int):=by rw[A];rfl
 rw[this];generalize s/2^i.toNat=m;rw[Xao];simp only[beq_iff_eq,decide_eq_true_eq,Xap];omega
def Rl{s:Nat}{i:Int}(h0:0<=i)(h1:i<=62):WK (s:Int) i=s.testBit i.toNat:=by
 rw[<-nI h0 h1];unfold WK dC;rw[BG (by omega)];obtain⟨n,rfl⟩:=Int.eq_ofNat_of_zero_le h0;rw[uH (by omega)];have A:((2:Int)^n)=((2^n:Nat):Int):=by norm_cast
 have e:((n:Int)).toNat=n:=Xaz n;rw[e];have:((s:Int)/2^n)=((s/2^n:Nat):Int):=by rw[A];rfl
 rw[this];generalize s/2^n=m;rw[Int.tmod_eq_emod_of_nonneg (by omega)];rw[Xao];simp only[beq_iff_eq,decide_eq_true_eq,Xap];omega
def VG{s:Nat}{n:Int}(I:s<2^63)(h0:0<=n)(h1:n<=62):WQ (s:Int) n=((s ||| 2^n.toNat:Nat):Int):=by
 unfold WQ;rw[Rl h0 h1];cases F:s.testBit n.toNat with
 | true=>rw[if_pos rfl,KH F]
 | false=>rw[if_neg (by simp),BG (by omega)];obtain⟨k,rfl⟩:=Int.eq_ofNat_of_zero_le h0;have e:((k:Int)).toNat=k:=Xaz k;rw[e]at F |-;have J:2^k<2^63:=Xbt (by decide) (by omega);have A:=Wp I (by omega) F;have E:=Nat.or_lt_two_pow I J;rw[A]at E |-;rw[ED (by omega),bE (by omega)];omega
def FK{l:List Visit}(h:∀v∈l,Ft v=false):Zh l=(AH l:Nat):=by
 suffices ∀(l:List Visit) (s:Nat),s<2^63->(∀v∈l,Ft v=false)->l.foldl (fun s v=>WQ s v.order) (s:Int)=((l.foldl (fun s v=>s ||| 2^v.order.toNat) s:Nat):Int)from this l 0 (by decide) h
 intro l;induction l with
 | nil=>intro s _ _;rfl
 | cons v r ih=>intro s E h;have A:=h v (by simp);unfold Ft at A;simp only[Xaj,decide_eq_false_iff_not]at A;rw[List.foldl_cons,List.foldl_cons,VG E (by omega) (by omega)];exact ih _ (Nat.or_lt_two_pow E (Xbt (by decide) (by omega))) fun u F=>h u (by simp[F])
def O6(v:Visit):okV v= !Ft v:=rfl
def Ol(l:List Visit):jH l=lX l:=by
 unfold jH lX;by_cases h:l.any Ft=true
 ·rw[if_pos h,if_neg];rw[Xal];intro I;obtain⟨v,A,E⟩:=Xan.1 h;have:=I v A;rw[O6,E]at this;cases this
 ·have F : ∀ v ∈ l, Ft v = false := fun v A => by
   cases E:Ft v with
   | false=>rfl
   | true=>exact absurd (Xan.2 ⟨v,A,E⟩) h
  rw[if_neg h,if_pos (Xal.2 fun v A=>by rw[O6,F v A];rfl),FK F]
def Ur(r:Route)(A:r.visits.length<=1048576):PC prog 40 [.agg (bI r)] (.tup [int (lX r.visits).1,int (lX r.visits).2]):=Ol r.visits▸F9 r A
def lQ(o:Order)(i:Int):List Visit:=(if decide (o.pick.place>=0)=true then[⟨i,false⟩]else[])++(if decide (o.drop.place>=0)=true then[⟨i,true⟩]else[])
def gN(os:List Order)(i:Int):List Visit:=if bZ i os.length=true then[]else match os[i.toNat]? with|some o=>lQ o i|none=>[]
def KL(o:Order)(i:Int):(lQ o i).length<=2:=by unfold lQ;split <;> split <;> simp
def oY(os:List Order)(i:Int):(gN os i).length<=2:=by
 unfold gN;split
 ·simp
 ·split
  ·exact KL _ _
  ·simp
def oR(os:List Order)(i:Int):PC prog 119 [.sl (os.map bF),int i] (.sl ((gN os i).map aL)):=by
 refine pcb (fun t=>t == 5) func119 rfl rfl ?_;simp only[go_sem];refine aJ fun j T=>?_
 simp only[go_sem];refine aP (PM os i) ?_;simp only[go_sem];refine aA (fun h0=>?_) (fun h0=>?_)
 ·have I:bZ i os.length=true:=by simpa using h0
  simp only[go_sem];rw[gN,if_pos I];exact .refl _
 have I:bZ i os.length=false:=by simpa using h0
 have F:0<=i/\i<(os.length:Int):=by simp only[bZ,Xaj,decide_eq_false_iff_not]at I;omega
 obtain⟨o,E⟩:=aO (show i.toNat<os.length by omega);rw[gN,if_neg (by rw[I];simp),E];simp only[go_sem,aC E,F];refine aA (fun h1=>?_) (fun h1=>?_)
 ·simp only[go_sem,aC E,F];refine bT (aB _ _ _) ⟨rfl,rfl⟩ ⟨rfl,trivial⟩ (by simp) (fun j' O=>?_);simp only[go_sem,aC E,F];refine aA (fun A=>?_) (fun A=>?_)
  ·simp only[go_sem,aC E,F];refine bT (aB _ _ _) ⟨rfl,rfl⟩ ⟨rfl,trivial⟩ (by simp) (fun M J=>?_);simp only[go_sem];have e:lQ o i=[⟨i,false⟩,⟨i,true⟩]:=by unfold lQ;rw[if_pos h1,if_pos A];rfl
   rw[e];exact .row _ _ _ (aB _ _ _) (ConvE.refl _)
  ·simp only[go_sem];have e:lQ o i=[⟨i,false⟩]:=by unfold lQ;rw[if_pos h1,if_neg (by rw[A];simp)];rfl
   rw[e];exact .row _ _ _ (aB _ _ _) (ConvE.refl _)
 ·simp only[go_sem,aC E,F];refine aA (fun A=>?_) (fun A=>?_)
  ·simp only[go_sem,aC E,F];refine bT (aB _ _ _) ⟨rfl,rfl⟩ ⟨rfl,trivial⟩ (by simp) (fun M J=>?_);simp only[go_sem];have e:lQ o i=[⟨i,true⟩]:=by unfold lQ;rw[if_neg (by rw[h1];simp),if_pos A];rfl
   rw[e];exact .row _ _ _ (aB _ _ _) (ConvE.refl _)
  ·simp only[go_sem];have e:lQ o i=[]:=by unfold lQ;rw[if_neg (by rw[h1];simp),if_neg (by rw[A];simp)];rfl
   rw[e];exact .row _ _ _ (aB _ _ _) (ConvE.refl _)
def tV(l:List Visit)(i:Nat):Bool:=decide (fU (l.take i) (l.getD i ⟨0,false⟩)>=0)
def EW:∀l:List Visit,cA 2 (l.map aL)
 | []=>trivial
 | _::r=>⟨rfl,EW r⟩
def XQ(l:List Visit)(hl:l.length<=1048576):PC prog 97 [.sl (l.map aL)] (boo ((List.range l.length).any (tV l))):=by
 refine pcd func97 rfl rfl ?_;simp only[go_sem];refine⟨fun ρ _=>∃k:Nat,k<=l.length/\ρ 0=.sl (l.map aL)/\ρ 5=.sl (l.map aL)/\ρ 6=int l.length/\ρ 7=int k/\∀c∈(List.range l.length).take k,tV l c=false,fun ρ _=>l.length-aU (ρ 7),⟨0,Xab _,rfl,rfl,rfl,rfl,by simp⟩,?_⟩;rintro ρ H ⟨k,hk,h0,J,F,I,Y⟩;simp only[go_sem,h0,J,F,I];refine aA (fun A=>?_) (fun M=>?_)
 ·have A:=bU A;obtain⟨v,Z⟩:=aO A;have b1:=inB A;simp only[go_sem,h0,J,F,I,aC Z,b1];refine aJ fun X E=>?_
  simp only[go_sem,h0,J,F,I];refine bH E (by simp[cN]) fun O (T:O X=some (⟨72,2,[aL v]⟩)) N=>?_
  clear N E;simp only[go_sem,h0,J,F,I,T];refine fW [X] [(0,true),(1,true),(2,true),(3,true),(4,true),(5,true)] (by simp[T]) (by kernel_rfl) fun Hp Hr hp hr _ aa=>?_
  have P4:=(hp X (by simp)).trans T;simp only[go_sem,h0,J,F,I,P4,<-List.map_take];refine⟨by omega,_,(AA (l.take k) v (by simp;omega)).q rfl,?_⟩;simp only[go_sem,h0,J,F,I,P4];refine dN fun _ Hm _ _=>?_
  simp only[go_sem,h0,J,F,I];have ed:tV l k=decide (fU (l.take k) v>=0):=by simp[tV,List.getD,Z]
  refine aA (fun U=>?_) (fun U=>?_)
  ·simp only[go_sem];exact cK (Xan.2 ⟨k,Xba.2 A,ed.trans U⟩).symm
  ·simp only[go_sem,h0,J,F,I,aT k];exact⟨⟨k+1,A,rfl,aR (p:=fun c=>tV l c=false) (sF A) (ed.trans U) Y⟩,by simp only[aF];omega⟩
 ·have M:=bW hk M;subst M;simp only[go_sem];refine cK ?_
  symm
  rw[Xbb];intro c hc;rw[Y c (by rw[Xam (by simp)];exact hc)];simp
def zT(l:List Visit):List Visit->Int->Bool
 | [],_=>true
 | w::r,last=>decide (fU l w>last)&&zT l r (fU l w)
def B7(os:List Order)(l:List Visit)(v:Visit):Bool:=inV (gN os v.order) v&&zT l (gN os v.order) (-1)
def AP{α:Type}{l:List α}{k:Nat}{x:α}(h:l[k]?=some x):l.drop k=x::l.drop (k+1):=by obtain⟨A,rfl⟩:=List.getElem?_eq_some_iff.1 h;exact List.drop_eq_getElem_cons A
def VX(x:Instance)(l:List Visit)(hl:l.length<=1048576):PC prog 98 [.agg (aE x),.sl (l.map aL)] (boo (l.all (B7 x.orders l))):=by
 refine pcd func98 rfl rfl ?_;simp only[go_sem];refine⟨fun ρ _=>∃k:Nat,k<=l.length/\ρ 1=.sl (l.map aL)/\ρ 2=.rp (aE x) 0/\ρ 12=.sl (l.map aL)/\ρ 13=int l.length/\ρ 14=int k/\∀v∈l.take k,B7 x.orders l v=true,fun ρ _=>l.length-aU (ρ 14),⟨0,Xab _,rfl,rfl,rfl,rfl,rfl,by simp⟩,?_⟩;rintro ρ H ⟨k,hk,h1,I,F,E,A,hz⟩;simp only[go_sem,h1,I,F,E,A];refine aA (fun U=>?_) (fun ac=>?_)
 ·have U:=bU U;obtain⟨v,hv⟩:=aO U;have b1:=inB U;simp only[go_sem,h1,I,F,E,A,aC hv,b1];refine aJ fun i6 aa=>?_
  simp only[go_sem,h1,I,F,E,A];refine bH aa (by simp[cN]) fun ag (R6:ag i6=some (⟨72,2,[aL v]⟩)) N=>?_
  clear N aa;simp only[go_sem,h1,I,F,E,A,R6];refine aP (oR x.orders v.order) ?_;have ai:=oY x.orders v.order;simp only[go_sem,h1,I,F,E,A,R6];refine aP (No (gN x.orders v.order) v (by omega)) ?_;simp only[go_sem,h1,I,F,E,A,R6];refine aA (fun Z=>?_) (fun Z=>?_)
  ·simp only[go_sem];refine cK ?_
   symm
   exact uB hv (by unfold B7;rw[show inV (gN x.orders v.order) v=false by simpa using Z];rfl)
  have ae:inV (gN x.orders v.order) v=true:=by simpa using Z
  simp only[go_sem,h1,I,F,E,A,R6];refine⟨fun ρ _=>∃(m:Nat) (last:Int),m<=(gN x.orders v.order).length/\ρ 1=.sl (l.map aL)/\ρ 2=.rp (aE x) 0/\ρ 12=.sl (l.map aL)/\ρ 13=int l.length/\ρ 14=int k/\ρ 27=.sl ((gN x.orders v.order).map aL)/\ρ 28=int (gN x.orders v.order).length/\ρ 29=int m/\ρ 8=int last/\zT l (gN x.orders v.order) (-1)=zT l ((gN x.orders v.order).drop m) last,fun ρ _=>(gN x.orders v.order).length-aU (ρ 29),
   ⟨0,-1,Xab _,by simp only[go_sem,h1],by simp only[go_sem,I],by simp only[go_sem,F],by simp only[go_sem,E],by simp only[go_sem,A],by simp only[go_sem],by simp only[go_sem,Xaa],by simp only[go_sem];rfl,by simp only[go_sem],rfl⟩,?_⟩
  clear h1 I F E A R6;rintro ρ H ⟨m,last,hm,h1,I,F,E,A,M,T,O,h8,he⟩;simp only[go_sem,h1,I,F,E,A,M,T,O,h8];refine aA (fun J=>?_) (fun Y=>?_)
  ·have J:=bU J;obtain⟨w,hw⟩:=aO J;have b2:=inB J;simp only[go_sem,h1,I,F,E,A,M,T,O,h8,aC hw,b2];refine aJ fun ah X=>?_
   simp only[go_sem,h1,I,F,E,A,M,T,O,h8];refine bH X (by simp[cN]) fun ab (af:ab ah=some (⟨72,2,[aL w]⟩)) N=>?_
   clear N X;simp only[go_sem,h1,I,F,E,A,M,T,O,h8,af];refine aP (AA l w hl) ?_;simp only[go_sem,h1,I,F,E,A,M,T,O,h8,af];rw[AP hw]at he;refine aA (fun Z=>?_) (fun Z=>?_)
   ·simp only[go_sem];refine cK ?_
    symm
    refine uB hv ?_;unfold B7;rw[ae,he,zT];have:decide (fU l w>last)=false:=by simp at Z |-;exact Z
    rw[this];rfl
   ·simp only[go_sem,h1,I,F,E,A,M,T,O,h8,aT m];refine⟨⟨m+1,_,J,rfl,rfl,?_⟩,by simp only[aF];omega⟩;rw[he,zT];have:decide (fU l w>last)=true:=by simp at Z |-;exact Z
    rw[this];rfl
  ·have Y:=bW hm Y;subst Y;rw[Xbi,zT]at he;simp only[go_sem,h1,I,F,E,A,aT k];exact⟨⟨k+1,U,rfl,aR (p:=fun v=>B7 x.orders l v=true) hv (by unfold B7;rw[ae,he];rfl) hz⟩,by simp only[aF];omega⟩
 ·have ac:=bW hk ac;subst ac;simp only[go_sem];exact cK (Ax hz).symm
def Tg(l:List Visit)(a b:Int):Bool:=decide (oE (fun v:Visit=>v.order == b) l 0<0)||(Ej l a&& !Ej (l.drop (oE (fun v:Visit=>v.order == b) l 0).toNat) a)
def Qi{α:Type}{p:α->Bool}:∀(l:List α) (n:Int),oE p l n<n+l.length\/oE p l n= -1
 | [],n=>.inr rfl
 | a::r,n=>by
  unfold oE;split
  ·left;simp;omega
  ·rcases Qi (p:=p) r (n+1)with h|h
   ·left;simp;omega
   ·right;exact h
def V6(l:List Visit)(a b:Int)(F:l.length<=1048576):PC prog 100 [.sl (l.map aL),int a,int b] (boo (Tg l a b)):=by
 refine pcd func100 rfl rfl ?_;simp only[go_sem];refine aP (zW (p:=fun v=>v.order == b) l F (by simp only[go_sem]) fun v _=>RA b v) ?_;simp only[go_sem];have J:=Qi (p:=fun v:Visit=>v.order == b) l 0;generalize E:oE (fun v:Visit=>v.order == b) l 0=I at J;refine aA (fun h0=>?_) (fun h0=>?_)
 ·simp only[go_sem];refine cK ?_;unfold Tg;rw[E,h0];rfl
 ·have A:0<=I:=by simp at h0;exact h0
  simp only[go_sem];refine aP (Cs l a F) ?_;simp only[go_sem,<-List.map_drop];refine⟨fun _=>⟨⟨A,by omega⟩,EW l⟩,_,fun _=>(Cs (l.drop I.toNat) a (by simp;omega)).q rfl,?_⟩;simp only[go_sem];refine cK ?_;unfold Tg;rw[E,h0];rfl
def VJ(x:Instance)(v:Visit):PC prog 95 [.agg (aL v),.rp (aE x) 0] (boo (bZ v.order x.orders.length)):=by refine pcd func95 rfl rfl ?_;simp only[go_sem];exact .refl _
def TR(x:Instance)(v:Visit)(h:bZ v.order x.orders.length=false):PC prog 96 [.agg (aL v),.rp (aE x) 0] (boo (KA x v.order)):=by
 have E:0<=v.order/\v.order<(x.orders.length:Int):=by simp only[bZ,Xaj,decide_eq_false_iff_not]at h;omega
 obtain⟨o,A⟩:=aO (show v.order.toNat<x.orders.length by omega);refine pcd func96 rfl rfl ?_;simp only[go_sem];simp only[go_sem,aC A,E];exact cK (by unfold KA;rw[A])
def uU(x:Instance)(l:List Visit):Int:=
 if((l.length:Int) == 0||l.any fun v=>bZ v.order x.orders.length)=true then 2
 else if(l.any fun v=>KA x v.order)=true then 9
 else if((List.range l.length).any (tV l))=true then 6
 else if(!l.all (B7 x.orders l))=true then 19
 else if(x.apart.any fun q=>Ej l q.a&&Ej l q.b)=true then 20
 else if(x.before.any fun q=> !Tg l q.a q.b)=true then 21 else 0
def DC(x:Instance)(r:Route)(hl:r.visits.length<=1048576)(ha:x.apart.length<=1048576)(hb:x.before.length<=1048576):PC prog 66 [.agg (aE x),.agg (bI r)] (int (uU x r.visits)):=by
 refine pcd func66 rfl rfl ?_;simp only[go_sem];refine⟨_,fun _=>(nL (p:=fun v=>bZ v.order x.orders.length) r.visits hl (by simp only[go_sem]) fun v _=>VJ x v).q rfl,?_⟩;simp only[go_sem];refine aA (fun Y=>?_) (fun Y=>?_)
 ·simp only[go_sem];exact bP (by unfold uU;rw[if_pos Y])
 have af:∀v∈r.visits,bZ v.order x.orders.length=false:=fun v hv=>by rw[Xaj]at Y;have:=Xbb.1 Y.2 v hv;simpa using this
 have Y:¬((r.visits.length:Int) == 0||r.visits.any fun v=>bZ v.order x.orders.length)=true:=by rw[Y];simp
 simp only[go_sem];refine aP (nL (p:=fun v=>KA x v.order) r.visits hl (by simp only[go_sem]) fun v hv=>TR x v (af v hv)) ?_;simp only[go_sem];refine aA (fun c2=>?_) (fun c2=>?_)
 ·simp only[go_sem];exact bP (by unfold uU;rw[if_neg Y,if_pos c2])
 have c2:¬(r.visits.any fun v=>KA x v.order)=true:=by rw[c2];simp
 simp only[go_sem];refine aP (XQ r.visits hl) ?_;simp only[go_sem];refine aA (fun c3=>?_) (fun c3=>?_)
 ·simp only[go_sem];exact bP (by unfold uU;rw[if_neg Y,if_neg c2,if_pos c3])
 have c3:¬((List.range r.visits.length).any (tV r.visits))=true:=by rw[c3];simp
 simp only[go_sem];refine aP (VX x r.visits hl) ?_;simp only[go_sem];refine aA (fun c4=>?_) (fun c4=>?_)
 ·simp only[go_sem];exact bP (by unfold uU;rw[if_neg Y,if_neg c2,if_neg c3,if_pos c4])
 have c4:¬(!r.visits.all (B7 x.orders r.visits))=true:=by rw[c4];simp
 simp only[go_sem];refine⟨fun ρ _=>∃k:Nat,k<=x.apart.length/\ρ 2=.rp (aE x) 0/\ρ 5=.sl (r.visits.map aL)/\ρ 33=.sl (x.apart.map dL)/\ρ 34=int x.apart.length/\ρ 35=int k/\∀q∈x.apart.take k,(Ej r.visits q.a&&Ej r.visits q.b)=false,fun ρ _=>x.apart.length-aU (ρ 35),⟨0,Xab _,by simp only[go_sem],by simp only[go_sem],by simp only[go_sem],by simp only[go_sem],by simp only[go_sem];rfl,by simp⟩,?_⟩;rintro ρ H ⟨k,hk,Z,F,J,I,E,hz⟩;simp only[go_sem,Z,F,J,I,E];refine aA (fun A=>?_) (fun O=>?_)
 ·have A:=bU A;obtain⟨q,hq⟩:=aO A;have b1:=inB A;simp only[go_sem,Z,F,J,I,E,aC hq,b1];refine aJ fun i7 ab=>?_
  simp only[go_sem,Z,F,J,I,E];refine bH ab (by simp[jV]) fun ae (R7:ae i7=some (⟨87,2,[dL q]⟩)) N=>?_
  clear N ab;simp only[go_sem,Z,F,J,I,E,R7];refine⟨by decide,PC.use (Cs r.visits q.a hl) ?_⟩;simp only[go_sem,Z,F,J,I,E,R7];refine⟨fun _=>by decide,_,fun _=>(Cs r.visits q.b hl).q rfl,?_⟩;simp only[go_sem,Z,F,J,I,E];refine aA (fun M=>?_) (fun M=>?_)
  ·simp only[go_sem];exact bP (by unfold uU;rw[if_neg Y,if_neg c2,if_neg c3,if_neg c4,if_pos (Xan.2 ⟨q,Xac hq,M⟩)])
  ·simp only[go_sem,Z,F,J,I,E,aT k];exact⟨⟨k+1,A,rfl,aR (p:=fun q:Pair=>(Ej r.visits q.a&&Ej r.visits q.b)=false) hq M hz⟩,by simp only[aF];omega⟩
 have O:=bW hk O;subst O;rw[Xad]at hz;have c5:¬(x.apart.any fun q=>Ej r.visits q.a&&Ej r.visits q.b)=true:=by rw[A7 hz];simp
 simp only[go_sem,Z,F];refine⟨fun ρ _=>∃k:Nat,k<=x.before.length/\ρ 5=.sl (r.visits.map aL)/\ρ 51=.sl (x.before.map dL)/\ρ 52=int x.before.length/\ρ 53=int k/\∀q∈x.before.take k,(!Tg r.visits q.a q.b)=false,fun ρ _=>x.before.length-aU (ρ 53),⟨0,Xab _,by simp only[go_sem,F],by simp only[go_sem],by simp only[go_sem],by simp only[go_sem];rfl,by simp⟩,?_⟩;clear Z F J I E hz hk;rintro ρ H ⟨k,hk,F,X,U,T,hz⟩;simp only[go_sem,F,X,U,T];refine aA (fun A=>?_) (fun O=>?_)
 ·have A:=bU A;obtain⟨q,hq⟩:=aO A;have b1:=inB A;simp only[go_sem,F,X,U,T,aC hq,b1];refine aJ fun i9 aa=>?_
  simp only[go_sem,F,X,U,T];refine bH aa (by simp[jV]) fun ac (R9:ac i9=some (⟨87,2,[dL q]⟩)) N=>?_
  clear N aa;simp only[go_sem,F,X,U,T,R9];refine⟨by decide,⟨by decide,PC.use (V6 r.visits q.a q.b hl) ?_⟩⟩;simp only[go_sem,F,X,U,T];refine aA (fun M=>?_) (fun M=>?_)
  ·simp only[go_sem];exact bP (by unfold uU;rw[if_neg Y,if_neg c2,if_neg c3,if_neg c4,if_neg c5,if_pos (Xan.2 ⟨q,Xac hq,M⟩)])
  ·simp only[go_sem,F,X,U,T,aT k];exact⟨⟨k+1,A,rfl,aR (p:=fun q:Pair=>(!Tg r.visits q.a q.b)=false) hq M hz⟩,by simp only[aF];omega⟩
 have O:=bW hk O;subst O;rw[Xad]at hz;simp only[go_sem];exact bP (by unfold uU;rw[if_neg Y,if_neg c2,if_neg c3,if_neg c4,if_neg c5,if_neg (by rw[A7 hz];simp)])
def fM(x:Instance)(v:Visit):Stop×Int:=if(iA x v).2=true then((iA x v).1,0)else(kU,if bZ v.order x.orders.length=true then 2 else 19)
def O3(x:Instance)(v:Visit):PC prog 151 [.sl (x.orders.map bF),.agg (aL v)] (.tup [.agg (dQ (fM x v).1),int (fM x v).2]):=by
 refine pcd func151 rfl rfl ?_;simp only[go_sem];refine dV fun i4 X M (A:X i4=some (wW kU)) N=>?_
 clear N M;simp only[go_sem,A];refine aP (PM x.orders v.order) ?_;simp only[go_sem];refine aA (fun h1=>?_) (fun h1=>?_)
 ·have h1:bZ v.order x.orders.length=true:=by simpa using h1
  have e:fM x v=(kU,2):=by unfold fM iA;rw[if_pos h1,if_pos h1];rfl
  rw[e];simp only[go_sem];refine aN A (by simp) ?_;simp only[go_sem];exact .refl _
 have h1:bZ v.order x.orders.length=false:=by simpa using h1
 have O:0<=v.order/\v.order<(x.orders.length:Int):=by simp only[bZ,Xaj,decide_eq_false_iff_not]at h1;omega
 obtain⟨o,Z⟩:=aO (show v.order.toNat<x.orders.length by omega);have e0:iA x v=(uM o v,decide ((uM o v).place>=0)):=by unfold iA;rw[if_neg (by rw[h1];simp),Z]
 have e:fM x v=if(uM o v).place<0 then(kU,19)else(uM o v,0):=by
  unfold fM;rw[e0,if_neg (show ¬bZ v.order x.orders.length=true by rw[h1];simp)];by_cases h:(uM o v).place<0
  ·rw[if_pos h,if_neg (by simp;omega)]
  ·rw[if_neg h,if_pos (by simp;omega)]
 rw[e];simp only[go_sem,aC Z,O];refine aJ fun i6 F=>?_
 simp only[go_sem,A];refine bH F (by simp[jW]) fun Y (J:Y i6=some (wW o.pick)) N=>?_
 replace A:=N A;obtain⟨E,A⟩:=A;clear N F;simp only[go_sem,J,A];refine gT (fun U H'=>U 4=.op i4 0 0/\U 6=.op i6 0 0/\H' i4=some (wW kU)/\H' i6=some (wW (uM o v))) ?_ fun K hK=>aA (fun hb=>?_) (fun hb=>?_)
 ·clear A J;rintro ρ H ⟨T,h6,A,J⟩;simp only[go_sem,T,h6,J];refine aA (fun I=>?_) (fun I=>?_)
  ·have I:(uM o v).place<0:=by simpa using I
   rw[if_pos I];simp only[go_sem,T];refine aN A (by simp) ?_;simp only[go_sem,T];exact .refl _
  ·have I:¬(uM o v).place<0:=by simpa using I
   rw[if_neg I];simp only[go_sem,T,h6,J];refine aN A (by simp[jW]) ?_;simp only[go_sem,T];exact .refl _
 ·simp only[go_sem,aC Z,O];refine aN J (by simp[jW]) ?_;simp only[go_sem];refine hK _ _ ⟨by simp only[go_sem],by simp only[go_sem],by rw[aD _ _ _ _ E];exact A,?_⟩;rw[aB,uM,if_pos hb];rfl
 ·simp only[go_sem];refine hK _ _ ⟨by simp only[go_sem],by simp only[go_sem],A,?_⟩;rw[uM,if_neg (by rw[hb];simp)];exact J
def rL(set:Int)(k:Nat):List Int:=((List.range k).filter fun i:Nat=>dC set (i:Int)).map fun i:Nat=>(i:Int)
def eJ(set:Int):List Int:=rL set 63
def oS(set:Int)(k:Nat):rL set (k+1)=rL set k++(if dC set (k:Int)=true then[(k:Int)]else[]):=by
 unfold rL;rw[List.range_succ,List.filter_append,Xak];by_cases h:dC set (k:Int)=true
 ·simp[h]
 ·simp[h]
def nH(set:Int)(k:Nat):(rL set k).length<=k:=by unfold rL;rw[Xaa];exact Xag (Xbm _ _) (by simp)
def hY(set:Int):PC prog 54 [int set] (.sl ((eJ set).map aQ)):=by
 refine pcb (fun t=>t == 3) func54 rfl rfl ?_;simp only[go_sem];refine aJ fun j M=>?_
 simp only[go_sem];refine⟨fun ρ H=>∃k:Nat,k<=63/\ρ 0=int set/\ρ 5=int k/\∃j,ρ 3=.os j/\H j=some (tJ (rL set k)),fun ρ _=>63-aU (ρ 5),⟨0,Xab _,rfl,rfl,j,rfl,aB _ _ _⟩,?_⟩;clear M;rintro ρ H ⟨k,T,h0,I,j,E,R⟩;simp only[go_sem,h0,I,E];refine aA (fun A=>?_) (fun F=>?_)
 ·have A:k<63:=by simp at A;omega
  simp only[go_sem,h0,I,E];refine aP (rC set k) ?_;simp only[go_sem,h0,I,E];refine aA (fun J=>?_) (fun J=>?_)
  ·simp only[go_sem,h0,I,E];refine bT R ⟨rfl,rfl⟩ ⟨rfl,trivial⟩ (by have:=nH set k;simp;omega) (fun j' O=>?_);simp only[go_sem,h0,I,E,aT k];refine⟨⟨k+1,A,rfl,j',rfl,?_⟩,by simp only[aF];omega⟩;rw[oS,if_pos J];exact Wx (l':=[(k:Int)]) rfl
  ·simp only[go_sem,h0,I,E,aT k];refine⟨⟨k+1,A,rfl,j,rfl,?_⟩,by simp only[aF];omega⟩;rw[oS,if_neg (by rw[J];simp),Xbn];exact R
 ·have F:k=63:=by simp at F;omega
  subst F;simp only[go_sem,E];exact .row _ _ _ R (ConvE.refl _)
def YS(a b:Int):Int:=W (a+b)
def Vh(a b:Int):Int:=W (a-b)
def ZC(a b:Int):PC prog 185 [int a,int b] (int (YS a b)):=by refine pcd func185 rfl rfl ?_;simp only[go_sem];exact .refl _
def Dd(a b:Int):PC prog 186 [int a,int b] (int (Vh a b)):=by refine pcd func186 rfl rfl ?_;simp only[go_sem];exact .refl _
def U1{α:Type}{l:List α}{k n:Nat}{x z:α}(E:l.length=n)(h:l[k]?=some x):(l.take k++List.replicate (n-k) z).set k x=l.take (k+1)++List.replicate (n-(k+1)) z:=by
 have A:=(List.getElem?_eq_some_iff.1 h).1;have e:n-k=(n-(k+1))+1:=by omega
 rw[aZ h,e,List.replicate_succ,List.set_append_right _ _ (by simp;omega)];have:k-(l.take k).length=0:=by simp;omega
 rw[this,List.set_cons_zero];simp
def GR{g:Nat}{op:Int->Int->Int}(a b:List Int)(hl:a.length<=1048576)(T:a.length=b.length)(Z:aH prog g=true)(hg:∀p q,PC prog g [int p,int q] (int (op p q))):
  NC prog 184 [.sl (a.map aQ),.sl (b.map aQ),.v (.func (.func g) #[] #[])] (tJ (List.zipWith op a b)) (fun j=>.tup [.os j,int 0]):=by
 have U:(List.zipWith op a b).length=a.length:=by rw[List.length_zipWith,<-T,Nat.min_self]
 refine ncb (fun _=>false) func184 rfl rfl ?_;simp only[go_sem];refine aA (fun hb=>by rw[T]at hb;simp at hb) (fun _=>?_);simp only[go_sem];refine⟨⟨by omega,by omega⟩,aJ fun j hj=>?_⟩;simp only[go_sem];refine⟨fun ρ H=>∃k:Nat,k<=a.length/\ρ 0=.sl (a.map aQ)/\ρ 1=.sl (b.map aQ)/\ρ 2=.v (.func (.func g) #[] #[])/\ρ 8=.os j/\ρ 19=int a.length/\ρ 20=int k/\H j=some (tJ ((List.zipWith op a b).take k++List.replicate (a.length-k) 0)),fun ρ _=>a.length-aU (ρ 20),⟨0,Xab _,rfl,rfl,rfl,rfl,by simp only[go_sem,Xaa],rfl,?_⟩,?_⟩
 ·rw[aB];simp[tJ,List.map_replicate,aQ]
 clear hj;rintro ρ H ⟨k,hk,h0,h1,O,M,F,E,R⟩;simp only[go_sem,h0,h1,O,M,F,E];refine aA (fun A=>?_) (fun J=>?_)
 ·have A:=bU A;obtain⟨p,hp⟩:=aO A;obtain⟨q,hq⟩:=aO (show k<b.length by omega);have X:=inB A;have b2:=inB (show k<b.length by omega);simp only[go_sem,h0,h1,O,M,F,E];refine As [(0,true),(1,true),(2,true),(3,true),(4,true),(5,true),(6,true),(7,true),(8,false),(9,false),(10,false),(11,false),(12,false),(13,false)] (by kernel_rfl) ?_;simp only[go_sem,h0,h1,O,M,F,E,aC hp,aC hq,X,b2,Z];refine aP (hg p q) ?_;have I:((List.zipWith op a b).take k++List.replicate (a.length-k) 0:List Int).length=a.length:=by simp[U];omega
  simp only[go_sem,h0,h1,O,M,F,E,R];refine⟨⟨X.1,by rw[I];exact X.2⟩,bO so3 R (by rw[Xaa,I];exact⟨A,rfl,Xaf 1⟩) ?_⟩;have hz:(List.zipWith op a b)[k]?=some (op p q):=by rw[List.getElem?_zipWith,hp,hq]
  have Y:k<((List.zipWith op a b).take k++List.replicate (a.length-k) 0:List Int).length:=by omega
  obtain⟨y,hy⟩:=aO Y;have hs:=U1 (n:=a.length) (z:=(0:Int)) U hz;simp only[go_sem,h0,h1,O,M,F,E,aC hy,aT k];refine⟨⟨k+1,A,rfl,?_⟩,by simp only[aF];omega⟩;rw[<-hs];show _=some (⟨3,1,_⟩:Row);rw[List.map_set];rfl
 ·have J:=bW hk J;subst J;simp only[go_sem,M];refine⟨j,rfl,?_⟩;rw[R,Xam (by omega)];simp
def xK(a b:List Int):List Int:=List.zipWith YS a b
def By(a b:List Int):List Int:=List.zipWith Vh a b
def Y8(a b:List Int)(E:a.length<=1048576)(A:a.length=b.length):NC prog 148 [.sl (a.map aQ),.sl (b.map aQ)] (tJ (xK a b)) (fun j=>.tup [.os j,int 0]):=by
 refine ncb (fun _=>false) func148 rfl rfl ?_;simp only[go_sem];refine NC.use (GR a b E A (by simp only[go_sem]) ZC) fun j F=>?_
 simp only[go_sem];exact⟨j,rfl,aB _ _ _⟩
def acD(a b:List Int)(E:a.length<=1048576)(A:a.length=b.length):NC prog 149 [.sl (a.map aQ),.sl (b.map aQ)] (tJ (By a b)) (fun j=>.tup [.os j,int 0]):=by
 refine ncb (fun _=>false) func149 rfl rfl ?_;simp only[go_sem];refine NC.use (GR a b E A (by simp only[go_sem]) Dd) fun j F=>?_
 simp only[go_sem];exact⟨j,rfl,aB _ _ _⟩
def NC.pc2{f:FuncId}{args:List AV}{r:Row}{y:AV}(h:NC prog f args r (fun j=>.tup [.os j,y])):PC prog f args (.tup [.sl r.es,y]):=
 RC.conv (RC.mono h fun x H' ⟨k,A,E⟩=>by rw[A];exact .tup _ _ (.cons _ _ _ _ (.row _ _ _ E (ConvE.refl _)) (ConvL.refl _)))
def XM(a c:List Int)(hl:a.length<=1048576):PC prog 105 [.sl (a.map aQ),.sl (c.map aQ)] (boo (jF a c)):=by
 refine pcd func105 rfl rfl ?_;simp only[go_sem];refine aA (fun O=>?_) (fun O=>?_)
 ·simp only[go_sem];refine cK ?_;unfold jF;have:((a.length:Int) == (c.length:Int))=false:=by simpa[bne]using O
  rw[this];rfl
 have T:a.length=c.length:=by simp[bne]at O;omega
 simp only[go_sem];refine⟨fun ρ _=>∃k:Nat,k<=a.length/\ρ 1=.sl (c.map aQ)/\ρ 12=.sl (a.map aQ)/\ρ 13=int a.length/\ρ 14=int k/\∀i∈(List.range a.length).take k,decide (a.getD i 0>c.getD i 0)=false,fun ρ _=>a.length-aU (ρ 14),⟨0,Xab _,rfl,rfl,by simp only[go_sem,Xaa],rfl,by simp⟩,?_⟩;rintro ρ H ⟨k,hk,h1,M,E,F,Y⟩;simp only[go_sem,h1,M,E,F];refine aA (fun A=>?_) (fun J=>?_)
 ·have A:=bU A;obtain⟨p,Z⟩:=aO A;obtain⟨q,X⟩:=aO (show k<c.length by omega);have b1:=inB A;have b2:=inB (show k<c.length by omega);have e1:a.getD k 0=p:=by simp[List.getD,Z]
  have U:c.getD k 0=q:=by simp[List.getD,X]
  simp only[go_sem,h1,M,E,F,aC Z,aC X,b1,b2];refine aA (fun I=>?_) (fun I=>?_)
  ·simp only[go_sem];refine cK ?_;unfold jF
   symm
   rw[Bool.and_eq_false_iff];right;exact uB (sF A) (by rw[e1,U,I];rfl)
  ·simp only[go_sem,h1,M,E,F,aT k];exact⟨⟨k+1,A,rfl,aR (p:=fun i=>decide (a.getD i 0>c.getD i 0)=false) (sF A) (by rw[e1,U];exact I) Y⟩,by simp only[aF];omega⟩
 ·have J:=bW hk J;subst J;simp only[go_sem];refine cK ?_;unfold jF
  symm
  rw[Xap];refine⟨by simp[T],Xal.2 fun i hi=>?_⟩;rw[Y i (by rw[Xam (by simp)];exact hi)];rfl
def aaJ(x:Instance):PC prog 147 [.sl (x.types.map bM)] (int (mA x)):=by
 refine pcd func147 rfl rfl ?_;simp only[go_sem];refine aA (fun A=>?_) (fun A=>?_)
 ·simp only[go_sem];have:x.types=[]:=List.eq_nil_of_length_eq_zero (by simp at A;simpa using A);exact bP (by unfold mA;rw[this];rfl)
 ·have h0 : 0 < x.types.length := by
   rcases Xbv x.types.length with h|h
   ·rw[h]at A;simp at A
   ·exact h
  obtain⟨t,E⟩:=aO h0;have F:(0:Int)<=0/\(0:Int)<(x.types.length:Int):=⟨Xbs _,by omega⟩;simp only[go_sem,aC (k:=0) E,F];exact bP (by unfold mA;rw[E])
def uJ(c s:Int):Bool:=(decide (c>=0)&&decide (s>=0))&&(pU .andNot .i64 s c == 0)
def ZR(t:VType)(s:Int):PC prog 101 [.agg (bM t),int s] (boo (uJ t.skills s)):=by refine pcd func101 rfl rfl ?_;simp only[go_sem];exact .refl _
def rD(x:Instance)(s:List Int)(i:Int):List Int:=match x.orders[i.toNat]? with
 | some o=>if decide (o.pick.place<0)=true then xK s o.load else s
 | none=>s
def Ic(x:Instance)(set dims:Int):List Int:=(eJ set).foldl (rD x) (List.replicate dims.toNat 0)
def jT{α A:Type}{f:A->α->A}{l:List α}{k:Nat}{x:α}{b:A}(h:l[k]?=some x):(l.take (k+1)).foldl f b=f ((l.take k).foldl f b) x:=by rw[aZ h,List.foldl_append];rfl
def Ee{x:Instance}{d:Nat}(A:∀o∈x.orders,o.load.length=d)(l:List Int):(l.foldl (rD x) (List.replicate d 0)).length=d:=by
 suffices ∀(l:List Int) (s:List Int),s.length=d->(l.foldl (rD x) s).length=d from this l _ (by simp)
 intro l;induction l with
 | nil=>intro s h;exact h
 | cons i r ih=>
  intro s h;rw[List.foldl_cons];refine ih _ ?_;unfold rD;split
  ·rename_i o E;split
   ·unfold xK;rw[List.length_zipWith,h,A o (Xac E),Nat.min_self]
   ·exact h
  ·exact h
def Ym(x:Instance)(set dims:Int)(h0:0<=dims)(h1:dims<=1048576)(hd:∀o∈x.orders,o.load.length=dims.toNat)(hm:∀i∈eJ set,0<=i/\i<(x.orders.length:Int)):
  PC prog 146 [.agg (aE x),int set,int dims] (.sl ((Ic x set dims).map aQ)):=by
 have ab:(eJ set).length<=63:=nH set 63;refine pcb (fun t=>t == 28) func146 rfl rfl ?_;simp only[go_sem];refine⟨⟨⟨h0,Xbs _⟩,by omega⟩,aJ fun j hj=>?_⟩;simp only[go_sem];refine aP (hY set) ?_;simp only[go_sem];refine⟨fun ρ H=>∃k:Nat,k<=(eJ set).length/\ρ 3=.rp (aE x) 0/\ρ 13=.sl ((eJ set).map aQ)/\ρ 14=int (eJ set).length/\ρ 15=int k/\∃j,ρ 7=.os j/\H j=some (tJ (((eJ set).take k).foldl (rD x) (List.replicate dims.toNat 0))),fun ρ _=>(eJ set).length-aU (ρ 15),⟨0,Xab _,rfl,rfl,by simp only[go_sem,Xaa],rfl,j,rfl,?_⟩,?_⟩
 ·rw[aB];simp[tJ,List.map_replicate,aQ]
 clear hj;rintro ρ H ⟨k,hk,O,E,A,F,j,J,R⟩;simp only[go_sem,O,E,A,F,J];refine aA (fun I=>?_) (fun M=>?_)
 ·have I:=bU I;obtain⟨i,Z⟩:=aO I;have b1:=inB I;have X:=hm i (Xac Z);obtain⟨o,T⟩:=aO (show i.toNat<x.orders.length by omega);have es:((eJ set).take (k+1)).foldl (rD x) (List.replicate dims.toNat 0)=if decide (o.pick.place<0)=true then xK (((eJ set).take k).foldl (rD x) (List.replicate dims.toNat 0)) o.load else((eJ set).take k).foldl (rD x) (List.replicate dims.toNat 0):=by rw[jT Z,rD,T]
  have U:=Ee hd ((eJ set).take k);generalize hS:((eJ set).take k).foldl (rD x) (List.replicate dims.toNat 0)=s at *;simp only[go_sem,O,E,A,F,J,aC Z,b1,aC T,X];refine aA (fun Y=>?_) (fun Y=>?_)
  ·simp only[go_sem,O,E,A,F,J,aC T,X];refine FM (by simp only[go_sem,J]) R fun Hr aa hr=>?_
   simp only[go_sem,O,E,A,F,J,aC T,X];refine NC.use (Y8 s o.load (by omega) (by rw[U,hd o (Xac T)])) fun j2 ac=>?_
   simp only[go_sem,O,E,A,F,J,aT k];exact⟨⟨k+1,I,rfl,j2,rfl,by rw[es,if_pos Y];exact aB _ _ _⟩,by simp only[aF];omega⟩
  ·simp only[go_sem,O,E,A,F,J,aT k];exact⟨⟨k+1,I,rfl,j,rfl,by rw[es,if_neg (by rw[Y];simp)];exact R⟩,by simp only[aF];omega⟩
 ·have M:=bW hk M;subst M;rw[Xad]at R;simp only[go_sem,J];exact .row _ _ _ R (ConvE.refl _)
def Sa(x:Instance)(s:List Int)(v:Visit):List Int:=match x.orders[v.order.toNat]? with
 | some o=>if v.drop=true then By s o.load else xK s o.load
 | none=>s
def Kp(x:Instance)(l:List Visit)(k:Nat):List Int:=(l.take k).foldl (Sa x) (Ic x (lX l).1 (mA x))
def tP(x:Instance)(l:List Visit)(k:Nat):List (List Int):=(List.range k).map (Kp x l)
def RO{x:Instance}{l:List Visit}{k:Nat}{v:Visit}(h:l[k]?=some v):Kp x l (k+1)=Sa x (Kp x l k) v:=jT h
structure LoadB(x:Instance):Prop where
 dims:0<=mA x/\mA x<=1048576
 load:∀o∈x.orders,o.load.length=(mA x).toNat
 few:x.orders.length<=63
def UT{x:Instance}(E:LoadB x){s:List Int}{v:Visit}(h:s.length=(mA x).toNat):(Sa x s v).length=(mA x).toNat:=by
 unfold Sa;split
 ·rename_i o A;have:=E.load o (Xac A);split
  ·unfold By;rw[List.length_zipWith,h,this,Nat.min_self]
  ·unfold xK;rw[List.length_zipWith,h,this,Nat.min_self]
 ·exact h
def JI{x:Instance}(A:LoadB x)(l:List Visit)(k:Nat):(Kp x l k).length=(mA x).toNat:=by
 suffices ∀(l:List Visit) (s:List Int),s.length=(mA x).toNat->(l.foldl (Sa x) s).length=(mA x).toNat from this _ _ (Ee A.load _)
 intro l;induction l with
 | nil=>intro s h;exact h
 | cons v r ih=>intro s h;rw[List.foldl_cons];exact ih _ (UT A h)
def Uq{s:Nat}{i:Int}(h:i∈eJ (s:Int)):0<=i/\i<=62/\s.testBit i.toNat=true:=by
 unfold eJ rL at h;obtain⟨k,E,rfl⟩:=Xau.1 h;obtain⟨h1,A⟩:=List.mem_filter.1 E;have F:=Xba.1 h1;refine⟨by omega,by omega,?_⟩
 rwa [nI (by omega) (by omega)]at A
def WF{x:Instance}{l:List Visit}(h:uU x l=0):∀v∈l,0<=v.order/\v.order<(x.orders.length:Int):=by
 intro v E;by_cases A:((l.length:Int) == 0||l.any fun v=>bZ v.order x.orders.length)=true
 ·unfold uU at h;rw[if_pos A]at h;cases h
 ·have A : bZ v.order x.orders.length = false := by rw[Bool.not_eq_true,Xaj]at A;have:=Xbb.1 A.2 v E;simpa using this
  simp only[bZ,Xaj,decide_eq_false_iff_not]at A;omega
def RZ{x:Instance}(J:LoadB x){l:List Visit}(h:∀v∈l,0<=v.order/\v.order<(x.orders.length:Int)):lX l=(((AH l:Nat):Int),0)/\∀i∈eJ (lX l).1,0<=i/\i<(x.orders.length:Int):=by
 have A:∀v∈l,Ft v=false:=fun v E=>by have:=h v E;have:=J.few;simp only[Ft,Xaj,decide_eq_false_iff_not];omega
 have e:lX l=(((AH l:Nat):Int),0):=by unfold lX;rw[if_neg (by rw[A7 A];simp),FK A]
 refine⟨e,fun i I=>?_⟩;rw[e]at I;obtain⟨h0,h1,F⟩:=Uq I;rw[UQ]at F;obtain⟨v,E,M⟩:=Xan.1 F;have:=h v E;have:v.order.toNat=i.toNat:=by simpa using M
 omega
def lZ(x:Instance)(l:List Visit):List (List Int)×Int:=if(uU x l != 0)=true then([],uU x l)else(tP x l (l.length+1),0)
def TE(x:Instance)(r:Route)(Y:LoadB x)(hl:r.visits.length<=1048576)(ha:x.apart.length<=1048576)(hb:x.before.length<=1048576):
  PC prog 102 [.agg (aE x),.agg (bI r)] (.tup [.sl ((lZ x r.visits).1.map qS),int (lZ x r.visits).2]):=by
 refine pcb (fun t=>t == 35) func102 rfl rfl ?_;simp only[go_sem];refine aP (DC x r hl ha hb) ?_;simp only[go_sem];refine aA (fun hc=>?_) (fun hc=>?_)
 ·simp only[go_sem];have:lZ x r.visits=([],uU x r.visits):=by unfold lZ;rw[if_pos hc]
  rw[this];exact .refl _
 have e0:lZ x r.visits=(tP x r.visits (r.visits.length+1),0):=by unfold lZ;rw[if_neg (by rw[hc];simp)]
 have aj:uU x r.visits=0:=by simpa[bne]using hc
 have ag:=WF aj;obtain⟨eo,hm⟩:=RZ Y ag;simp only[go_sem];refine aP (Ur r hl) ?_;simp only[go_sem];refine aA (fun ah=>by rw[eo]at ah;simp at ah) (fun _=>?_);simp only[go_sem];refine As [(0,true),(1,true),(2,false),(3,false),(4,false),(5,false),(6,false)] (by kernel_rfl) ?_;simp only[go_sem];refine aP (aaJ x) ?_;simp only[go_sem];refine aP (Ym x _ _ Y.dims.1 Y.dims.2 Y.load hm) ?_;simp only[go_sem];refine aJ fun j hj=>?_
 simp only[go_sem];refine⟨fun ρ H=>∃k:Nat,k<=r.visits.length/\ρ 2=.rp (aE x) 0/\ρ 37=.sl (r.visits.map aL)/\ρ 38=int r.visits.length/\ρ 39=int k/\ρ 9=.sl ((Kp x r.visits k).map aQ)/\∃j,ρ 10=.os j/\H j=some (abS (tP x r.visits (k+1))),fun ρ _=>r.visits.length-aU (ρ 39),⟨0,Xab _,rfl,rfl,by simp only[go_sem,Xaa],rfl,rfl,j,rfl,aB _ _ _⟩,?_⟩;clear hj;rintro ρ H ⟨k,hk,M,E,A,F,U,j,I,R⟩;simp only[go_sem,M,E,A,F,U,I];refine aA (fun J=>?_) (fun Z=>?_)
 ·have J:=bU J;obtain⟨v,hv⟩:=aO J;have b1:=inB J;have ai:=ag v (Xac hv);obtain⟨o,ho⟩:=aO (show v.order.toNat<x.orders.length by omega);have am:=Y.load o (Xac ho);have an:=JI Y r.visits k;have hd:=Y.dims;have X:=RO (x:=x) hv;unfold Sa at X;rw[ho]at X;simp only at X;simp only[go_sem,M,E,A,F,U,I,aC hv,b1];refine aJ fun ak O=>?_
  simp only[go_sem,M,E,A,F,U,I,R];refine bH O (by simp[cN]) fun ab (aa:ab ak=some (⟨72,2,[aL v]⟩)) N=>?_
  replace R:=N R;obtain⟨ac,R⟩:=R;clear N O;simp only[go_sem,M,E,A,F,U,I,aa,R];have ae:tP x r.visits (k+2)=tP x r.visits (k+1)++[Kp x r.visits (k+1)]:=by unfold tP;rw[List.range_succ,Xak];rfl
  have af:(tP x r.visits (k+1)).length=k+1:=by simp[tP]
  refine aA (fun T=>?_) (fun T=>?_)
  ·simp only[go_sem,M,E,A,F,U,I,aa,aC ho,ai];refine aP (NC.pc2 (acD (Kp x r.visits k) o.load (by omega) (by omega))) ?_;simp only[go_sem,M,E,A,F,U,I];refine aA (fun hb=>by simp at hb) (fun _=>?_);simp only[go_sem,M,E,A,F,U,I];refine bT R ⟨rfl,rfl⟩ ⟨rfl,trivial⟩ (by simp only[Xaa,af,Xae,List.length_nil];omega) (fun j' al=>?_);simp only[go_sem,M,E,A,F,aT k];refine⟨⟨k+1,J,rfl,by rw[X,if_pos T],j',rfl,?_⟩,by simp only[aF];omega⟩;rw[aB,ae,X,if_pos T];show _=some (⟨23,1,_⟩:Row);rw[Xak];rfl
  ·simp only[go_sem,M,E,A,F,U,I,aa,aC ho,ai];refine aP (NC.pc2 (Y8 (Kp x r.visits k) o.load (by omega) (by omega))) ?_;simp only[go_sem,M,E,A,F,U,I];refine aA (fun hb=>by simp at hb) (fun _=>?_);simp only[go_sem,M,E,A,F,U,I];refine bT R ⟨rfl,rfl⟩ ⟨rfl,trivial⟩ (by simp only[Xaa,af,Xae,List.length_nil];omega) (fun j' al=>?_);simp only[go_sem,M,E,A,F,aT k];refine⟨⟨k+1,J,rfl,by rw[X,if_neg (by rw[T];simp)],j',rfl,?_⟩,by simp only[aF];omega⟩;rw[aB,ae,X,if_neg (by rw[T];simp)];show _=some (⟨23,1,_⟩:Row);rw[Xak];rfl
 ·have Z:=bW hk Z;subst Z;simp only[go_sem,I];rw[e0];exact .tup _ _ (.cons _ _ _ _ (.row _ _ _ R (ConvE.refl _)) (ConvL.refl _))
def WN(x:Instance)(r:Route)(a:List Int)(I:a.length<=1048576)(J:bZ r.type x.types.length=false):
  PC prog 104 [.sl (a.map aQ),.rp (aE x) 0,.rp (bI r) 0] (boo (!jF a (Kb x r.type))):=by
 have A:0<=r.type/\r.type<(x.types.length:Int):=by simp only[bZ,Xaj,decide_eq_false_iff_not]at J;omega
 obtain⟨t,E⟩:=aO (show r.type.toNat<x.types.length by omega);have F:Kb x r.type=t.cap:=by unfold Kb;rw[E]
 refine pcd func104 rfl rfl ?_;simp only[go_sem];simp only[go_sem,aC E,A];refine aP (XM a t.cap I) ?_;simp only[go_sem];rw[F];exact .refl _
def AD(x:Instance)(r:Route):Int:=
 if bZ r.type x.types.length=true then 2 else if((lZ x r.visits).2 != 0)=true then(lZ x r.visits).2
 else if((lZ x r.visits).1.any fun l=> !jF l (Kb x r.type))=true then 17 else 0
def Mf{x:Instance}(A:LoadB x){l:List Visit}:(lZ x l).1.length<=l.length+1/\∀a∈(lZ x l).1,a.length=(mA x).toNat:=by
 unfold lZ;split
 ·simp
 ·refine⟨by simp[tP],fun a E=>?_⟩;obtain⟨k,_,rfl⟩:=Xau.1 E;exact JI A l k
def Yt(x:Instance)(r:Route)(F:LoadB x)(U:r.visits.length<=1048575)(O:x.apart.length<=1048576)(T:x.before.length<=1048576):
  PC prog 68 [.agg (aE x),.agg (bI r)] (int (AD x r)):=by
 refine pcd func68 rfl rfl ?_;simp only[go_sem];refine aA (fun h1=>?_) (fun h1=>?_)
 ·simp only[go_sem];exact bP (by unfold AD;rw[if_pos (show bZ r.type x.types.length=true from h1)])
 have h1:bZ r.type x.types.length=false:=h1;have J:¬bZ r.type x.types.length=true:=by rw[h1];simp
 simp only[go_sem];refine aP (TE x r F (by omega) O T) ?_;simp only[go_sem];refine aA (fun A=>?_) (fun A=>?_)
 ·simp only[go_sem];exact bP (by unfold AD;rw[if_neg J,if_pos A])
 have c2:¬((lZ x r.visits).2 != 0)=true:=by rw[A];simp
 obtain⟨Y,M⟩:=Mf F (l:=r.visits);have X:=F.dims;simp only[go_sem];refine aP (C0 (p:=fun a=> !jF a (Kb x r.type)) (lZ x r.visits).1 (by omega) (by simp only[go_sem]) fun a E=>WN x r a (by rw[M a E];omega) h1) ?_;simp only[go_sem];refine aA (fun I=>?_) (fun I=>?_)
 ·simp only[go_sem];exact bP (by unfold AD;rw[if_neg J,if_neg c2,if_pos I])
 ·simp only[go_sem];exact bP (by unfold AD;rw[if_neg J,if_neg c2,if_neg (by rw[I];simp)])
end Go.Proofs.YtkjdacijpeiphaaGreatDoor.Sq
end
