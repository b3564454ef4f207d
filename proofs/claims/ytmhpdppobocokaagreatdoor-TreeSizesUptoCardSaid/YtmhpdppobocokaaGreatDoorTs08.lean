import Derived.Test.YtmhpdppobocokaaGreatDoorRows
import Derived.Carry
import Derived.OpenShut
import Derived.JoinedCond
import Derived.WalkKit
import Derived.ProofKit
import Derived.WideKeyArgs
import Derived.Test.YtmhpdppobocokaaGreatDoorTs04
set_option linter.unusedSimpArgs false
set_option linter.unusedVariables false
set_option linter.defProp false
set_option maxRecDepth 100000
section
namespace Go.Proofs.YtmhpdppobocokaaGreatDoor
open Go.Aw Go.Aw.D Go.Proofs Ty
def lN(l:List Int)(d:Int):Bool:=if(l.length:Int)=d then l.all fun n=> !(decide (n<0)||decide (n>1000))else false
def Bm{k n:Nat}(h:decide ((k:Int)<(n:Int))=true):k<n:=by simpa using h
def AK{k n:Nat}(u:k<=n)(h:decide ((k:Int)<(n:Int))=false):k=n:=by
 have:¬k<n:=by simpa using h
 omega
def lH(l:List VType)(k:Nat)(s:ByteArray):Bool:=(l.take k).any fun t=>t.name.toList == s.toList
end Go.Proofs.YtmhpdppobocokaaGreatDoor
end
section
namespace Go.Aw.D
open Go.Aw Go.RowKit
def Sw(w:World):Sg:=⟨fun k=>k<w.heap.size,fun k=>k<w.heap.size,fun _=>.slice none 0 0,fun _=>1,0⟩
def EC(w:World):Prop:=∀t∈ND,mW w t.1=some t.2
theorem Gx{w:World}{g:Nat}{cs:Array Value}(h:mW w g=some cs):g<w.heap.size:=by
 unfold mW at h;split at h
 ·rename_i h1;exact(Array.getElem?_eq_some_iff.1 h1).1
 ·cases h
theorem Vy(w:World)(E:EC w):St (Sw w) w bJ:=⟨fun _ h=>h,fun _ h=>h,fun k r u=>by simp[bJ]at u,fun k r u=>by simp[bJ]at u,fun k k' r r' u=>by simp[bJ]at u,fun t h=>⟨Gx (E t h),E t h⟩⟩
def uC(_:Nat)(x:Int):Prop:= -9223372036854775808<=x/\x<=9223372036854775807
def DG(_:Nat)(_:Bool):Prop:=True
def RM(n:Nat)(s:ByteArray):Prop:=s.size<=n
def bL{α:Type}(b:Nat->α->Prop)(n:Nat)(l:List α):Prop:=l.length<=n/\∀x∈l,b n x
def Rd{H:Type}(e:TypeId×Value->H)(B:DataW H->Nat)(P:Program)(w:World)(t:TypeId){α:Type}(enc:α->List AV)(b:Nat->α->Prop):Prop:=
 ∀fuel cs y,DataW.trod e P w 0 (fun _=>true) true fuel t cs=some y->∃x:α,(aR (Sw w) w (enc x) cs/\∀u∈cs,u.oneCell'=true)/\∀n,B y.1<=n->b n x
section
variable{H:Type}{e:TypeId×Value->H}{P:Program}{w:World}{t:TypeId}
abbrev BK(H:Type):DataW H->Nat:=Go.Proofs.YtmhpdppobocokaaGreatDoor.Rows.uptoBulk
theorem jP(E:P.underlying t=some (.int .i64)):Rd e (BK H) P w t aP uC:=by intro u cs y h;obtain⟨n,rfl,_,F⟩:=DataW.trod_int E h;refine⟨n,⟨by simp only[aP,aR];exact⟨_,_,rfl,by simp only[rep],rfl⟩,by simp[Value.oneCell']⟩,fun _ _=>bounds_i64 F⟩
theorem AA(E:P.underlying t=some .bool):Rd e (BK H) P w t gU DG:=by intro u cs y h;obtain⟨n,rfl,_⟩:=DataW.trod_bool E h;refine⟨n,⟨by simp only[gU,aR];exact⟨_,_,rfl,by simp only[rep],rfl⟩,by simp[Value.oneCell']⟩,fun _ _=>trivial⟩
theorem UF(F:P.underlying t=some .string):Rd e (BK H) P w t cQ RM:=by intro u cs y h;obtain⟨s,rfl,rfl,_⟩:=DataW.trod_string F h;refine⟨s,⟨by simp only[cQ,aR];exact⟨_,_,rfl,by simp only[rep],rfl⟩,by simp[Value.oneCell']⟩,fun n E=>?_⟩;simp only[BK,Go.Proofs.YtmhpdppobocokaaGreatDoor.Rows.uptoBulk,Array.length_toList]at E;have:s.size=s.data.size:=rfl;simp only[RM];omega
theorem Dq{d:DataW H}{l:List (DataW H)}(h:d∈l):BK H d<=Go.Proofs.YtmhpdppobocokaaGreatDoor.Rows.uptoBulkAll l:=by
 induction l with
 | nil=>cases h
 | cons x r ih=>
  simp only[Go.Proofs.YtmhpdppobocokaaGreatDoor.Rows.uptoBulkAll];cases List.mem_cons.1 h with
  | inl e=>subst e;simp only[BK];omega
  | inr e=>have:=ih e;omega
theorem PL(d:DataW H):1<=BK H d:=by
 cases d with
 | lit l=>cases l <;> simp[BK,Go.Proofs.YtmhpdppobocokaaGreatDoor.Rows.uptoBulk]
 | nil=>simp[BK,Go.Proofs.YtmhpdppobocokaaGreatDoor.Rows.uptoBulk]
 | ptr d=>simp[BK,Go.Proofs.YtmhpdppobocokaaGreatDoor.Rows.uptoBulk]
 | slice elems spare=>simp[BK,Go.Proofs.YtmhpdppobocokaaGreatDoor.Rows.uptoBulk]
 | agg parts=>simp[BK,Go.Proofs.YtmhpdppobocokaaGreatDoor.Rows.uptoBulk]
 | iface t d=>simp[BK,Go.Proofs.YtmhpdppobocokaaGreatDoor.Rows.uptoBulk]
 | map entries=>simp[BK,Go.Proofs.YtmhpdppobocokaaGreatDoor.Rows.uptoBulk]
 | held h=>simp[BK,Go.Proofs.YtmhpdppobocokaaGreatDoor.Rows.uptoBulk]
theorem IU(l:List (DataW H)):l.length<=Go.Proofs.YtmhpdppobocokaaGreatDoor.Rows.uptoBulkAll l:=by
 induction l with
 | nil=>simp[Go.Proofs.YtmhpdppobocokaaGreatDoor.Rows.uptoBulkAll]
 | cons x r ih=>have:=PL x;simp only[Go.Proofs.YtmhpdppobocokaaGreatDoor.Rows.uptoBulkAll,List.length_cons,BK]at *;omega
theorem HK{α:Type}(n:Nat)(p:Nat->α->Prop)(h:∀i,i<n->∃x,p i x):∃l:List α,l.length=n/\∀i x,l[i]?=some x->p i x:=by
 induction n with
 | zero=>exact⟨[],rfl,by simp⟩
 | succ n ih=>
  obtain⟨l,L,J⟩:=ih fun i hi=>h i (by omega)
  obtain⟨x,F⟩:=h n (by omega);refine⟨l++[x],by simp[L],fun i y u=>?_⟩;rcases Nat.lt_or_ge i n with hi|hi
  ·rw[List.getElem?_append_left (by omega)]at u;exact J i y u
  ·rw[List.getElem?_append_right (by omega)]at u;have:i-l.length=0:=by
    rcases Nat.eq_zero_or_pos (i-l.length)with h0|h0
    ·exact h0
    ·rw[List.getElem?_eq_none (by simp;omega)]at u;simp at u
   rw[this]at u;have E:i=n:=by omega
   subst E;simp at u;subst u;exact F
theorem vS{S:Sg}{b sz:Nat}{α:Type}{enc:α->List AV}(u:∀x,(enc x).length=sz):∀(l:List α) (o:Nat),(∀i x,l[i]?=some x->bW S w b (o+i*sz) (enc x))->eB S w b sz o (l.map enc)
 | [],_,_=>by simp[eB]
 | x::r,o,h=>by
  simp only[List.map_cons,eB];refine⟨u x,by simpa using h 0 x rfl,vS u r (o+sz) fun i y E=>?_⟩;have:=h (i+1) y (by simpa using E)
  rwa [show o+(i+1)*sz=o+sz+i*sz by rw[Nat.add_mul];omega]at this
theorem xQ{a:Addr}{n:Nat}{cs:List Value}(h:w.cells? 0 a n=some cs):cs.length=n/\∀j,j<n->w.cell? (a.add j)=cs[j]?:=by unfold World.cells? at h;rw[if_pos (Nat.zero_le _)]at h;have u:=mapM_some_length h;exact⟨by simpa using u,fun j E=>mapM_some_get h j j (by simp[E])⟩
theorem nB{α:Type}{enc:α->List AV}{b:Nat->α->Prop}{et:TypeId}{sz:Nat}(ht:P.underlying t=some (.slice et))(hc:P.cellsOf et=sz)(F:0<sz)(M:∀x,(enc x).length=sz)(hr:Rd e (BK H) P w et enc b):
  Rd e (BK H) P w t (fun l:List α=>[.sl (l.map enc)]) (bL b):=by
 intro al cs y h;rcases DataW.trod_slice ht h with⟨rfl,rfl⟩|⟨a,len,cap,E,rest,n,rfl,rfl,rfl,_,ah,O,ak,ae,ap,_⟩
 ·refine⟨[],⟨?_,by simp[Value.oneCell']⟩,fun n _=>⟨by simp,by simp⟩⟩;simp only[aR,rep,List.map_nil];exact⟨_,_,rfl,⟨none,0,0,rfl,rfl,Nat.le_refl _,Nat.zero_le _,by simp⟩,rfl⟩
 ·have hp : ∀ i, i < len -> ∃ x : α, ∃ z cs', E[i]? = some z /\ w.cells? 0 (a.add (i * sz)) sz = some cs' /\ (aR (Sw w) w (enc x) cs' /\ ∀ u ∈ cs', u.oneCell' = true) /\ ∀ n, BK H z.1 <= n -> b n x := fun i hi => by have hg:=ae i hi;rw[List.getElem?_eq_getElem (by omega),hc,Option.bind_eq_some_iff]at hg;obtain⟨cs',h1,h2⟩:=hg;obtain⟨x,hx,L⟩:=hr _ _ _ h2;exact⟨x,_,cs',List.getElem?_eq_getElem (by omega),h1,hx,L⟩
  obtain⟨l,hl,aa⟩:=HK len _ hp;refine⟨l,⟨?_,by simp[Value.oneCell']⟩,fun m hm=>⟨?_,fun x hx=>?_⟩⟩
  ·simp only[aR];refine⟨_,_,rfl,?_,rfl⟩;simp only[rep];refine⟨some a,len,cap,rfl,by simp[hl],ah,O,?_⟩;rcases Nat.eq_zero_or_pos len with h0|h0
   ·left;rw[List.eq_nil_of_length_eq_zero (hl.trans h0)];rfl
   ·right;have ag:=hp 0 h0;obtain⟨_,_,an,_,Z,_⟩:=ag;have q:=(xQ Z).2 0 F;have aj:=(xQ Z).1;rw[List.getElem?_eq_getElem (by omega)]at q;simp only[Nat.zero_mul,Addr.add,if_true]at q;have J:a.spot=none/\a.block<w.heap.size:=by
     unfold World.cell? at q;split at q
     ·rename_i c _ _ L;split at q
      ·simp at q
      ·rename_i hs;refine⟨by simpa using hs,?_⟩;rcases Nat.lt_or_ge a.block w.heap.size with h|h
       ·exact h
       ·rw[Array.getElem?_eq_none h]at L;simp at L
     ·simp at q
    obtain⟨ab,ao,am⟩:=a;obtain⟨hs,ac⟩:=J;simp only at hs ac;subst hs;refine⟨ab,ao,sz,rfl,ac,F,vS M l ao fun i x hx=>?_⟩;obtain⟨z,cs',_,ai,⟨h1,h2⟩,_⟩:=aa i x hx;refine fE _ cs' _ h1 h2 fun j u hj=>?_
    obtain⟨e1,e2⟩:=xQ ai;have af:j<sz:=by
     rcases Nat.lt_or_ge j sz with h|h
     ·exact h
     ·rw[List.getElem?_eq_none (by omega)]at hj;simp at hj
    have:=e2 j af;rw[hj,Addr.add_lit,Addr.add_lit]at this;exact this
  ·rw[hl,<-ak];have h1:=IU (E.map (·.1));simp only[BK,Go.Proofs.YtmhpdppobocokaaGreatDoor.Rows.uptoBulk,List.length_map]at hm h1;omega
  ·obtain⟨i,hi⟩:=List.mem_iff_getElem?.1 hx;obtain⟨z,cs',hz,_,_,L⟩:=aa i x hi;refine L m ?_;have h1:=Dq (List.mem_map_of_mem (f:=(·.1)) (List.mem_of_getElem? hz));simp only[BK,Go.Proofs.YtmhpdppobocokaaGreatDoor.Rows.uptoBulk]at hm h1 |-;omega
theorem fld{u o m:Nat}{cs:List Value}{z:DataW H×List MemPlace}(E:P.cellsOf t=m)(h:DataW.trod e P w 0 (fun _=>true) true u t ((cs.drop o).take (P.cellsOf t))=some z):DataW.trod e P w 0 (fun _=>true) true u t ((cs.drop o).take m)=some z:=E▸h
theorem CU{S:Sg}{a b:List AV}{cs:List Value}{o m:Nat}(h:aR S w a ((cs.drop o).take m))(u:aR S w b (cs.drop (o+m))):aR S w (a++b) (cs.drop o):=by
 have:=cA a b _ _ h u
 rwa [<-List.drop_drop,List.take_append_drop]at this
theorem PV{S:Sg}{cs:List Value}{o:Nat}(h:cs.length=o):aR S w [] (cs.drop o):=by rw[List.drop_eq_nil_of_le (by omega)];simp[aR]
theorem HF{cs:List Value}{o m:Nat}(h:∀u∈(cs.drop o).take m,u.oneCell'=true)(F:∀u∈cs.drop (o+m),u.oneCell'=true):∀u∈cs.drop o,u.oneCell'=true:=by
 intro u E;rw[<-List.take_append_drop m (cs.drop o),List.drop_drop]at E;rcases List.mem_append.1 E with E|E
 ·exact h u E
 ·exact F u E
theorem SC{cs:List Value}{o:Nat}(h:cs.length=o):∀u∈cs.drop o,u.oneCell'=true:=by rw[List.drop_eq_nil_of_le (by omega)];simp
theorem JB{xs:List (DataW H×List MemPlace)}{i:Nat}{z:DataW H×List MemPlace}(u:xs[i]?=some z){n:Nat}(h:BK H (.agg (xs.map (·.1)))<=n):BK H z.1<=n:=by have h1:=Dq (List.mem_map_of_mem (f:=(·.1)) (List.mem_of_getElem? u));simp only[BK,Go.Proofs.YtmhpdppobocokaaGreatDoor.Rows.uptoBulk]at h h1 |-;omega
theorem QX{α:Type}{xs:List α}{n i:Nat}(h:xs.length=n)(hi:i<n):∃z,xs[i]?=some z:=⟨xs[i],List.getElem?_eq_getElem (by omega)⟩
def RdL(e:TypeId×Value->H)(P:Program)(w:World)(T:TypeId)(fs:Array Field)(i o:Nat){α:Type}(enc:α->List AV)(b:Nat->α->Prop):Prop:=
 ∀(n:Nat) (cs:List Value) (xs:List (DataW H×List MemPlace)),cs.length=P.cellsOf T->xs.length=fs.size ->
   (∀(j:Nat) (f:Field),fs[j]?=some f->DataW.trod e P w 0 (fun _=>true) true n f.type ((cs.drop f.offset).take (P.cellsOf f.type))=xs[j]?) ->
   ∃x:α,(aR (Sw w) w (enc x) (cs.drop o)/\∀u∈cs.drop o,u.oneCell'=true)/\∀m,BK H (.agg (xs.map (·.1)))<=m->b m x
theorem rdF{fs:Array Field}{i o:Nat}{t:TypeId}(m:Nat){α:Type}{enc:α->List AV}{b:Nat->α->Prop}(R:Rd e (BK H) P w t enc b)(M:(fs[i]?).map (fun f:Field=>(f.type,f.offset))=some (t,o))(hm:P.cellsOf t=m)
  {n:Nat} {cs:List Value} {xs:List (DataW H×List MemPlace)} (h2:xs.length=fs.size) (O:∀(j:Nat) (f:Field),fs[j]?=some f->DataW.trod e P w 0 (fun _=>true) true n f.type ((cs.drop f.offset).take (P.cellsOf f.type))=xs[j]?):
  ∃x:α,(aR (Sw w) w (enc x) ((cs.drop o).take m)/\∀u∈(cs.drop o).take m,u.oneCell'=true)/\∀m,BK H (.agg (xs.map (·.1)))<=m->b m x:=by
 obtain⟨f,E,F⟩:=Option.map_eq_some_iff.1 M;obtain⟨rfl,rfl⟩:=Prod.mk.inj F;obtain⟨z,J⟩:=QX h2 (Array.getElem?_eq_some_iff.1 E).1;obtain⟨x,h,Z⟩:=R n ((cs.drop f.offset).take m) z (fld hm ((O i f E).trans J));exact⟨x,h,fun k L=>Z k (JB J L)⟩
theorem rdC{T:TypeId}{fs:Array Field}{i o:Nat}{t:TypeId}(m:Nat){α E:Type}{enc:α->List AV}{b:Nat->α->Prop}{u:E->List AV}{J:Nat->E->Prop}(R:Rd e (BK H) P w t enc b)(r:RdL e P w T fs (i+1) (o+m) u J)
  (Z:(fs[i]?).map (fun f:Field=>(f.type,f.offset))=some (t,o):=by rfl) (hm:P.cellsOf t=m:=by kernel_rfl):RdL e P w T fs i o (fun p:α×E=>enc p.1++u p.2) (fun n p=>b n p.1/\J n p.2):=fun n cs xs h1 M L=>by
 obtain⟨x,⟨r1,o1⟩,b1⟩:=rdF m R Z hm M L;obtain⟨y,⟨r2,O⟩,b2⟩:=r n cs xs h1 M L;exact⟨(x,y),⟨CU r1 r2,HF o1 O⟩,fun k F=>⟨b1 k F,b2 k F⟩⟩
theorem rdE{T:TypeId}{fs:Array Field}{i o:Nat}{t:TypeId}(m:Nat){α:Type}{enc:α->List AV}{b:Nat->α->Prop}(R:Rd e (BK H) P w t enc b)
  (E:(fs[i]?).map (fun f:Field=>(f.type,f.offset))=some (t,o):=by rfl) (Z:P.cellsOf t=m:=by kernel_rfl) (u:P.cellsOf T=o+m:=by kernel_rfl):RdL e P w T fs i o enc b:=fun n cs xs h1 O F=>by
 obtain⟨x,⟨J,L⟩,M⟩:=rdF m R E Z O F;refine⟨x,⟨?_,HF L (SC (h1.trans u))⟩,M⟩;have:=CU J (PV (h1.trans u))
 rwa [List.append_nil]at this
theorem rdS{T:TypeId}{fs:Array Field}{α X:Type}{enc:α->List AV}{b:Nat->α->Prop}{u:X->List AV}{L:Nat->X->Prop}(ht:P.underlying T=some (.struct fs))(r:RdL e P w T fs 0 0 enc b)(F:α->X)
  (M:∀p,u (F p)=enc p) (hb:∀n p,b n p->L n (F p)):Rd e (BK H) P w T u L:=by
 intro J cs y h;obtain⟨xs,n,rfl,rfl,O,E,Z⟩:=DataW.trod_struct ht h;obtain⟨x,⟨r1,o1⟩,b1⟩:=r n cs xs O E Z;exact⟨F x,⟨by rw[M];rwa [List.drop_zero]at r1,by rwa [List.drop_zero]at o1⟩,fun m hm=>hb m x (b1 m hm)⟩
end
section
open Go.Proofs Go.Proofs.YtmhpdppobocokaaGreatDoor
variable{H:Type}{e:TypeId×Value->H}{w:World}
theorem SN:Rd e (BK H) Tryz.prog w 23 (fun l:List Int=>[.sl (l.map aP)]) (bL uC):=nB (sz:=1) Tryz.underlying23 (by kernel_rfl) (by omega) (fun _=>rfl) (jP Tryz.underlying3)
theorem QN:Rd e (BK H) Tryz.prog w 85 (fun l:List Bool=>[.sl (l.map gU)]) (bL DG):=nB (sz:=1) Tryz.underlying85 (by kernel_rfl) (by omega) (fun _=>rfl) (AA Tryz.underlying4)
def Kh(n:Nat)(x:Visit):Prop:=uC n x.order/\DG n x.drop
theorem QG:Rd e (BK H) Tryz.prog w 362 iB Kh:=rdS Tryz.underlying362 (rdC 1 (jP Tryz.underlying3) (rdE 1 (AA Tryz.underlying4))) (fun(a,b)=>⟨a,b⟩) (fun _=>rfl) (fun _ (_,_) h=>h)
theorem NC:Rd e (BK H) Tryz.prog w 86 (fun l:List Visit=>[.sl (l.map iB)]) (bL Kh):=nB (sz:=2) Tryz.underlying86 (by kernel_rfl) (by omega) (fun _=>rfl) (QG)
def KY(n:Nat)(x:Route):Prop:=uC n x.type/\uC n x.start/\(bL DG) n x.rests/\(bL Kh) n x.visits
theorem P7:Rd e (BK H) Tryz.prog w 88 fG KY:=rdS Tryz.underlying88 (rdC 1 (jP Tryz.underlying3) (rdC 1 (jP Tryz.underlying3) (rdC 1 QN (rdE 1 NC)))) (fun(a,b,c,d)=>⟨a,b,c,d⟩) (fun _=>rfl) (fun _ (_,_,_,_) h=>h)
theorem Nb:Rd e (BK H) Tryz.prog w 22 (fun l:List Route=>[.sl (l.map fG)]) (bL KY):=nB (sz:=4) Tryz.underlying22 (by kernel_rfl) (by omega) (fun _=>rfl) (P7)
def TK(n:Nat)(x:Plan):Prop:=(bL KY) n x.routes/\(bL uC) n x.unserved
theorem SH:Rd e (BK H) Tryz.prog w 25 qV TK:=rdS Tryz.underlying25 (rdC 1 Nb (rdE 1 SN)) (fun(a,b)=>⟨a,b⟩) (fun _=>rfl) (fun _ (_,_) h=>h)
def Uy(n:Nat)(x:Cut):Prop:=uC n x.kind/\uC n x.set/\uC n x.n
theorem UI:Rd e (BK H) Tryz.prog w 82 cU Uy:=rdS Tryz.underlying82 (rdC 1 (jP Tryz.underlying3) (rdC 1 (jP Tryz.underlying3) (rdE 1 (jP Tryz.underlying3)))) (fun(a,b,c)=>⟨a,b,c⟩) (fun _=>rfl) (fun _ (_,_,_) h=>h)
theorem Tv:Rd e (BK H) Tryz.prog w 47 (fun l:List Cut=>[.sl (l.map cU)]) (bL Uy):=nB (sz:=3) Tryz.underlying47 (by kernel_rfl) (by omega) (fun _=>rfl) (UI)
theorem Sf:Rd e (BK H) Tryz.prog w 48 (fun l:List ByteArray=>[.sl (l.map cQ)]) (bL RM):=nB (sz:=1) Tryz.underlying48 (by kernel_rfl) (by omega) (fun _=>rfl) (UF Tryz.underlying59)
def Dd(n:Nat)(x:Decision):Prop:=uC n x.kind/\uC n x.a/\uC n x.b/\uC n x.n
theorem Je:Rd e (BK H) Tryz.prog w 50 aT Dd:=rdS Tryz.underlying50 (rdC 1 (jP Tryz.underlying3) (rdC 1 (jP Tryz.underlying3) (rdC 1 (jP Tryz.underlying3) (rdE 1 (jP Tryz.underlying3))))) (fun(a,b,c,d)=>⟨a,b,c,d⟩) (fun _=>rfl) (fun _ (_,_,_,_) h=>h)
def KK(n:Nat)(x:TNode):Prop:=DG n x.leaf/\uC n x.kind/\(bL Uy) n x.cuts/\(bL RM) n x.dual/\Dd n x.choice/\uC n x.yes/\uC n x.no
theorem PP:Rd e (BK H) Tryz.prog w 52 dR KK:=rdS Tryz.underlying52 (rdC 1 (AA Tryz.underlying4) (rdC 1 (jP Tryz.underlying3) (rdC 1 Tv (rdC 1 Sf (rdC 4 Je (rdC 1 (jP Tryz.underlying3) (rdE 1 (jP Tryz.underlying3)))))))) (fun(a,b,c,d,e,f,g)=>⟨a,b,c,d,e,f,g⟩) (fun _=>rfl) (fun _ (_,_,_,_,_,_,_) h=>h)
theorem N3:Rd e (BK H) Tryz.prog w 26 (fun l:List TNode=>[.sl (l.map dR)]) (bL KK):=nB (sz:=10) Tryz.underlying26 (by kernel_rfl) (by omega) (fun _=>rfl) (PP)
def QQ(n:Nat)(x:Proof):Prop:=DG n x.noPlan/\TK n x.plan/\(bL KK) n x.nodes
theorem Qe:Rd e (BK H) Tryz.prog w 28 eQ QQ:=rdS Tryz.underlying28 (rdC 1 (AA Tryz.underlying4) (rdC 2 SH (rdE 1 N3))) (fun(a,b,c)=>⟨a,b,c⟩) (fun _=>rfl) (fun _ (_,_,_) h=>h)
end
end Go.Aw.D
end
section
namespace Go.Proofs.YtmhpdppobocokaaGreatDoor
open Go.Aw Go.Aw.D Go.Proofs Go.RowKit Go.ChangeShapes Go.WideShapes Go.ChangeAt
section
variable{H:Type}{e:TypeId×Value->H}{P:Program}{W W':World}
theorem If{f:FuncId}{args:List AV}{vals:List Value}(h:PC P f args (.v (.bool true)))(M:EC W)(L:aR (Sw W) W args vals):
  Calls P f vals.toArray W fun F W'=>F=.returned (.bool true)/\Below W.heap.size W W':=
 (h (Sw W) W vals (Vy W M) (fun _ h=>h) L).mono fun F W' ⟨v,r,H',S',J,O,_,E,u,_⟩=>by subst O;simp only[rep]at E;subst E;exact⟨J,u.os,u.tape,u.output,u.size,u.same⟩
theorem vY(M:laidOutB P=true)(L:Below W.heap.size W W'):∀{F:List TypeId} {vs:List Value} {ds:List (DataW H)} {ps:List MemPlace},(∀t∈F,P.readableRec t=true/\t<P.types.size) ->
  DataW.TrodAll e P W 0 (fun _=>true) true F vs ds ps->(∀x∈ps,x.block<W.heap.size)->∀E:Nat->Bool,(∀x∈ps,E x.block=true)->DataW.TrodAll e P W' 0 E true F vs ds ps
 | [],[],[],_,_,h,_,_,_=>h
 | t::F,v::vs,d::ds,ps,ht,⟨p,q,h1,h2,he⟩,hlt,E,hs=>by
  subst he;have h0:=ht t (by simp);exact⟨p,q,WideElems.Trod_stays M h0.1 h0.2 h1 (fun x u=>L.same (hlt x (by simp[u]))) (fun x u=>hs x (by simp[u])),
   vY M L (fun t J=>ht t (by simp[J])) h2 (fun x u=>hlt x (by simp[u])) E (fun x u=>hs x (by simp[u])),rfl⟩
theorem J6{t:TypeId}{fs:Array Field}{α:Type}{enc:α->List AV}{b:Nat->α->Prop}{r:Reach}{F:Nat}{v:Value}{d:DataW H}{ps:List MemPlace}(L:P.underlying t=some (.struct fs))
  (M:Rd e (BK H) P W t enc b) (E:Value.okWide P W r F t v) (J:DataW.Trod e P W 0 (fun _=>true) true t v d ps):∃x:α,rep (Sw W) W (.agg (enc x)) v/\∀n,BK H d<=n->b n x:=by
 obtain⟨cs,rfl,_⟩:=okWide_struct L E;obtain⟨u,h⟩:=J;obtain⟨x,⟨h1,O⟩,Z⟩:=M u _ _ h;refine⟨x,?_,Z⟩;simp only[rep];exact⟨cs.toList,by simp,h1,O⟩
theorem Nn{fn:Func}{s:ChangeSpec}{args:Array Value}{ds gs:List (DataW H)}{before:List MemPlace}(hl:laidOutB P=true)(ag:∀t∈fn.params.toList,P.readableRec t=true/\t<P.types.size)
  (u:s.vars=[]) {tb:TypeId} (ab:P.underlying tb=some .bool) (Z:fn.resultTypes=#[tb]) (hW:DataW.Whole e P fn.params.toList s.vars false W args.toList ds gs before)
  (M:(s.fn H (ds++gs)).results=[.lit (.bool true)]) (L:(s.fn H (ds++gs)).args=ds) (ac:(s.fn H (ds++gs)).vars=[]) (hb:Below W.heap.size W W'):
  s.post e P fn false true false false W args (.bool true) W':=by
 have J:=hW.lt;have ae:=hW;obtain⟨p,q,hA,hV,rfl,af,ai⟩:=hW;rw[u]at hV;obtain⟨rfl,rfl⟩:=trodVars_none hV;have hk:W.keptBut W' (·∈p++[]):=hb.frame _;have O:∀x∈p++[],(fun b=>decide (b<W.heap.size)) x.block=true:=fun x E=>by simpa using J x E
 have r1:∀(b:Nat) (F:Nat->Bool) (hd:Bool),DataW.TrodAll e P W' b F hd fn.resultTypes.toList ((Value.bool true).resultList fn.resultTypes.size) (s.fn H (ds++[])).results []:=fun b F hd=>by rw[Z,M];exact trodAll_cons_mk (shut_bool ab _) trodAll_mk0
 have r2:∀F:Nat->Bool,(∀x∈p++[],F x.block=true)->DataW.TrodAll e P W' 0 F true fn.params.toList args.toList (s.fn H (ds++[])).args p:=fun F ah=>by rw[L];exact vY hl hb ag hA (fun x E=>J x (by simp[E])) F (fun x E=>ah x (by simp[E]))
 have r3:∀F:Nat->Bool,DataW.TrodVars e P W' F s.vars (s.fn H (ds++[])).vars []:=fun F=>by rw[u,ac];simp[DataW.TrodVars]
 refine⟨ds,[],p++[],[],p,[],ae,r1 _ _ _,r2 _ O,r3 _,World.keptBut_mono (fun x E=>⟨E,.inr (by simpa using E)⟩) hk,fun _=>?_⟩;refine⟨?_,_,_,([]++p)++[],⟨[]++p,[],trodAll_append (r2 _ (fun _ _=>rfl)) (r1 _ _ _),r3 _,rfl,?_,?_⟩,?_⟩
 ·exact ok_one Z rfl (okWide_bool_mk ab _)
 ·intro b off hp;have aa:MemPlace.cell b off∈p++[]:=by simpa using hp
  rw[hb.frozen (J _ aa)];exact af b off aa
 ·intro ha;simp at ha
 ·intro x E _;simpa using E
end
end Go.Proofs.YtmhpdppobocokaaGreatDoor
end
section
namespace Go.Proofs.YtmhpdppobocokaaGreatDoor
def Lz(n N:Int):Bool:=decide (n<0)||decide (n>=N)
end Go.Proofs.YtmhpdppobocokaaGreatDoor
namespace Go.Proofs.YtmhpdppobocokaaGreatDoor.Mv
open Go.Aw Go.Aw.D Go.Proofs Ty
def oD{H:aD}{a b:Bool}(h:a=b):Conv H (.v (.bool a)) (.v (.bool b)):=h▸.refl _
abbrev fC(l:List Int):Row:=⟨3,1,l.map aP⟩
end Go.Proofs.YtmhpdppobocokaaGreatDoor.Mv
end
section
namespace Go.Proofs.YtmhpdppobocokaaGreatDoor.Sq
open Go.Aw Go.Aw.D Go.Proofs Ty
open Mv (oD)
def TY(l:List Visit)(j:Nat):Int:=(l.getD j ⟨0,false⟩).order
def Sr(l:List Visit)(a b:Int)(j k:Nat):Bool:=TY l j == a&&TY l k == b
def OQ(l:List Visit)(a b:Int):Bool:=(List.range l.length).any fun j=>(List.range j).any fun k=>Sr l a b j k
def Ms(l:List Int):List AV:=[.sl (l.map aP)]
end Go.Proofs.YtmhpdppobocokaaGreatDoor.Sq
end
section
namespace Go.Proofs.YtmhpdppobocokaaGreatDoor.Sq
open Go.Aw Go.Aw.D Go.Proofs Ty
open Mv (oD)
open Mv (oD)
def W(n:Int):Int:=IntKind.i64.wrap n
end Go.Proofs.YtmhpdppobocokaaGreatDoor.Sq
end
section
namespace Go.Proofs.YtmhpdppobocokaaGreatDoor.Sq
open Go.Aw Go.Aw.D Go.Proofs Ty
open Mv (oD)
structure Score where
 cost:Int
 moved:Int
 other:Int
 work:Int
def bY(s:Score):List AV:=[int s.cost,int s.moved,int s.other,int s.work]
def fD:Score:=⟨0,0,0,0⟩
def iH(o:Order):Score×Int:=if o.off=true then(fD,9)else if(o.penalty == -1)=true then(fD,23)else(⟨o.penalty,if(o.now != -1)=true then 1 else 0,0,0⟩,0)
def gA(x:Instance)(k:Int):Score×Int:=if Lz k x.orders.length=true then(fD,2)else match x.orders[k.toNat]? with|some o=>iH o|none=>(fD,2)
abbrev dB(l:List Int):Row:=⟨3,1,l.map aP⟩
abbrev zeroCells:List AV:=[boo false,int 0,.sl [],int 0,int 0]
def iK(s:Score):(bY s).length=4:=(rfl)
def pT(s:Score):(bY s).getD 0 .any=int s.cost:=(rfl)
def qG(s:Score):(bY s).getD 1 .any=int s.moved:=(rfl)
def rB(s:Score):(bY s).getD 2 .any=int s.other:=(rfl)
def qB(s:Score):(bY s).getD 3 .any=int s.work:=(rfl)
def lR(s:Score):(bY s).take 4=bY s:=(rfl)
attribute [go_sem] iK pT qG rB qB lR
end Go.Proofs.YtmhpdppobocokaaGreatDoor.Sq
end
section
namespace Go.Proofs.YtmhpdppobocokaaGreatDoor.Sq
open Go.Proofs.Tryz
open Go.Aw Go.Aw.D Go.Proofs Ty
open Mv (oD)
def Fi(l:List Int):(Ms l).length=1:=(rfl)
attribute [go_sem] Fi
def RY(x:Int):nK .and .i64 x 1=x%2:=by
 have h:((BitVec.ofInt 64 x &&& BitVec.ofInt 64 1).toNat:Int)=x%2:=by
  rw[BitVec.toNat_and,BitVec.toNat_ofInt,BitVec.toNat_ofInt];have:((1:Int)%((2^64:Nat):Int)).toNat=1:=by decide
  rw[this,Nat.and_one_is_mod];omega
 refine Eq.trans (congrArg IntKind.i64.wrap h) ?_;exact aV (by omega)
def BD{x:Int}{i:Nat}(h:i<=62):shV .shr .i64 x (i:Int)=x/2^i:=by
 show x.fdiv (2^min ((i:Int)).toNat 64)=_;have:min ((i:Int)).toNat 64=i:=by omega
 rw[this,Int.fdiv_eq_ediv_of_nonneg _ (by exact Int.le_of_lt (Int.pow_pos (by decide)))]
def kM(set i:Int):Bool:=decide (i>=0)&&decide (i<=62)&&((set/2^i.toNat)%2 == 1)
def Cf(set i:Int):PC prog 63 [int set,int i] (boo (kM set i)):=by
 refine pcd func63 rfl rfl ?_;simp only[go_sem];refine⟨fun h=>?_,?_⟩
 ·simp at h;omega
 ·refine oD ?_;unfold kM;rw[RY];by_cases h:0<=i/\i<=62
  ·obtain⟨h0,h1⟩:=h;have e:=BD (x:=set) (i:=i.toNat) (by omega);rw[Int.toNat_of_nonneg h0]at e;rw[e]
  ·have:(decide (i>=0)&&decide (i<=62))=false:=by simp;omega
   rw[this];rfl
end Go.Proofs.YtmhpdppobocokaaGreatDoor.Sq
end
section
namespace Go.Proofs.YtmhpdppobocokaaGreatDoor.Sq
open Go.Aw Go.Aw.D Go.Proofs Ty
open Mv (oD)
end Go.Proofs.YtmhpdppobocokaaGreatDoor.Sq
end
section
namespace Go.Proofs.YtmhpdppobocokaaGreatDoor.Sq
open Go.Proofs.Tryz
open Go.Aw Go.Aw.D Go.Proofs Ty
open Mv (oD)
def sG(set:Int)(k:Nat):List Int:=((List.range k).filter fun i:Nat=>kM set (i:Int)).map fun i:Nat=>(i:Int)
def jO(set:Int):List Int:=sG set 63
def pD(set:Int)(k:Nat):sG set (k+1)=sG set k++(if kM set (k:Int)=true then[(k:Int)]else[]):=by
 unfold sG;rw[List.range_succ,List.filter_append,Xak];by_cases h:kM set (k:Int)=true
 ·simp[h]
 ·simp[h]
def oW(set:Int)(k:Nat):(sG set k).length<=k:=by unfold sG;rw[Xaa];exact Xan (Xbe _ _) (by simp)
def iG(set:Int):PC prog 126 [int set] (.sl ((jO set).map aP)):=by
 refine pcb (fun t=>t == 3) func126 rfl rfl ?_;simp only[go_sem];refine aL fun j O=>?_
 simp only[go_sem];refine⟨fun ρ H=>∃k:Nat,k<=63/\ρ 0=int set/\ρ 5=int k/\∃j,ρ 3=.os j/\H j=some (dB (sG set k)),fun ρ _=>63-aW (ρ 5),⟨0,Xab _,rfl,rfl,j,rfl,aB _ _ _⟩,?_⟩;clear O;rintro ρ H ⟨k,Z,h0,h5,j,E,R⟩;simp only[go_sem,h0,h5,E];refine aA (fun u=>?_) (fun F=>?_)
 ·have u:k<63:=by simp at u;omega
  simp only[go_sem,h0,h5,E];refine aN (Cf set k) ?_;simp only[go_sem,h0,h5,E];refine aA (fun J=>?_) (fun J=>?_)
  ·simp only[go_sem,h0,h5,E];refine cD R ⟨rfl,rfl⟩ ⟨rfl,trivial⟩ (by have:=oW set k;simp;omega) (fun L M=>?_);simp only[go_sem,h0,h5,E,aY k];refine⟨⟨k+1,u,rfl,L,rfl,?_⟩,by simp only[aF];omega⟩;rw[pD,if_pos J];exact Oz (l':=[(k:Int)]) rfl
  ·simp only[go_sem,h0,h5,E,aY k];refine⟨⟨k+1,u,rfl,j,rfl,?_⟩,by simp only[aF];omega⟩;rw[pD,if_neg (by rw[J];simp),Xaq];exact R
 ·have F:k=63:=by simp at F;omega
  subst F;simp only[go_sem,E];exact .row _ _ _ R (ConvE.refl _)
end Go.Proofs.YtmhpdppobocokaaGreatDoor.Sq
end
