import Derived.Test.YthephioccidfgaaGreatDoorVs03
set_option linter.unusedSimpArgs false
set_option linter.unusedVariables false
set_option linter.defProp false
set_option maxRecDepth 100000
namespace Go.Proofs.YthephioccidfgaaGreatDoor
open Go.Aw Go.Aw.D Go.Proofs Ty
abbrev int(n:Int):AV:=.v (.int .i64 n)
abbrev str(s:ByteArray):AV:=.v (.string s)
abbrev boo(b:Bool):AV:=.v (.bool b)
theorem aZ{α:Type}{l:List α}{k:Nat}{x:α}(h:l[k]?=some x):l.take (k+1)=l.take k++[x]:=by rw[List.take_add_one,h];rfl
def aI{α:Type}{l:List α}{k:Nat}(h:k<l.length):∃x,l[k]?=some x:=⟨l[k],List.getElem?_eq_getElem h⟩
def inB{k n:Nat}(h:k<n):0<=(k:Int)/\(k:Int)<(n:Int):=by omega
def qK{k:Nat}(h:k<=4611686018427387904):IntKind.i64.wrap ((k:Int)+1)=((k+1:Nat):Int):=by rw[bD (by omega)];omega
def anG{k:Nat}(h:k<=4611686018427387904):(IntKind.i64.wrap ((k:Int)-1)).toNat=k-1:=by rw[bD (by omega)];omega
theorem xZ{k:Nat}(h:k<=4611686018427387904):IntKind.i64.wrap ((k:Int)-1)=(k:Int)-1:=bD (by omega)
def Hd(e:TypeId×Nat×Nat)(d:Option Tmp)(j:Nat)(x:AV)(ρ:Env)(H:aG)(K:Env->aG->Prop):Prop:=match H j with
 | some r => yE H x fun news => (r.e = e.1 /\ r.sz = e.2.1 /\ cQ e.2.1 news /\ (r.es.length + news.length) * e.2.2 <= 140737488355328) /\
       ∀k',H k'=none->K (upd ρ d (.os k')) (aH (aH H j none) k' (some ⟨e.1,e.2.1,r.es++news⟩))
 | none=>False
def aiD{P:Program}{d:Option Tmp}{t:TypeId}{j:Nat}{x:AV}{ρ:Env}{H:aG}{K:Env->aG->Prop}:KX P d t (.os j) x ρ H K=bV (cA P t) (fun e=>Hd e d j x ρ H K):=by
 unfold KX uV Hd;cases cA P t with
 | none=>rfl
 | some e=>obtain⟨a,b,c⟩:=e;rfl
@[congr] theorem wappE_c {e d j x x' ρ H K} (h':x=x'):Hd e d j x ρ H K=Hd e d j x' ρ H K:=h'▸rfl
@[congr] theorem FCalls_c {P f a a' H R} (h':a=a'):bK P f a H R=bK P f a' H R:=h'▸rfl
def bC{e:TypeId×Nat×Nat}{d:Option Tmp}{j:Nat}{news:List (List AV)}{ρ:Env}{H:aG}{K:Env->aG->Prop}{r:Row}(E:H j=some r)
  (h1:r.e=e.1/\r.sz=e.2.1) (A:cQ e.2.1 news) (h3:(r.es.length+news.length)*e.2.2<=140737488355328)
  (h:∀j',H j'=none->K (upd ρ d (.os j')) (aH (aH H j none) j' (some ⟨e.1,e.2.1,r.es++news⟩))):Hd e d j (.sl news) ρ H K:=by
 unfold Hd;simp only[E];exact⟨⟨h1.1,h1.2,A,h3⟩,h⟩
def E7{e:TypeId×Nat×Nat}{d:Option Tmp}{j i:Nat}{r':Row}{ρ:Env}{H:aG}{K:Env->aG->Prop}{r:Row}(E:H j=some r)(F:H i=some r')
  (h1:r.e=e.1/\r.sz=e.2.1) (A:cQ e.2.1 r'.es) (h3:(r.es.length+r'.es.length)*e.2.2<=140737488355328)
  (h:∀j',H j'=none->K (upd ρ d (.os j')) (aH (aH H j none) j' (some ⟨e.1,e.2.1,r.es++r'.es⟩))):Hd e d j (.os i) ρ H K:=by
 unfold Hd;simp only[E,yE,F];exact⟨⟨h1.1,h1.2,A,h3⟩,h⟩
def bQ{P:Program}{C:mM}{PC:FuncId->List AV->aG->AV->Prop}{mt:Nat->Bool}{a b:Code}{x:AV}{K:Env->aG->Prop}{Q:Ex->Env->aG->Prop}{ρ:Env}{H:aG}(J:Env->aG->Prop)(h1:∀ρ H,J ρ H->K ρ H)
 (A:∀K:Env->aG->Prop,(∀ρ H,J ρ H->K ρ H)->Bf x (awp P C PC mt a (Ex.seq K Q)) (awp P C PC mt b (Ex.seq K Q)) ρ H):Bf x (awp P C PC mt a (Ex.seq K Q)) (awp P C PC mt b (Ex.seq K Q)) ρ H:=A K h1
def sZ{x:AV}{A B:Env->aG->Prop}{ρ:Env}{H:aG}(J:Env->aG->Prop)(h1:J ρ H)(E:∀ρ H,J ρ H->Bf x A B ρ H):Bf x A B ρ H:=E ρ H h1
def KG{P:Program}{C:mM}{PC:FuncId->List AV->aG->AV->Prop}{mt:Nat->Bool}{c:Code}{id:Nat}{Q:Ex->Env->aG->Prop}{ρ:Env}{H:aG}(J:Env->aG->Prop)(h1:∀ρ H,J ρ H->Q .normal ρ H)
  (A:∀Q':Ex->Env->aG->Prop,(∀ρ H,J ρ H->Q' (.exit id) ρ H)->(∀ρ H,Q .ret ρ H->Q' .ret ρ H)->SR (awp P C PC mt c) Q' ρ H):SR (awp P C PC mt c) (Ex.blk id Q) ρ H:=
 A (Ex.blk id Q) (fun ρ H h=>by rw[Te];exact h1 ρ H h) (fun ρ H h=>by rw[ZX];exact h)
def qN{P:Program}{C:mM}{PC:FuncId->List AV->aG->AV->Prop}{mt:Nat->Bool}{a b:Code}{x:AV}{Q:Ex->Env->aG->Prop}{ρ:Env}{H:aG}(J:Env->aG->Prop)(h1:∀ρ H,J ρ H->Q .normal ρ H)
  (A:∀Q':Ex->Env->aG->Prop,(∀ρ H,J ρ H->Q' .normal ρ H)->(∀i ρ H,Q (.exit i) ρ H->Q' (.exit i) ρ H)->(∀ρ H,Q .ret ρ H->Q' .ret ρ H)->Bf x (awp P C PC mt a Q') (awp P C PC mt b Q') ρ H):Bf x (awp P C PC mt a Q) (awp P C PC mt b Q) ρ H:=
 A Q h1 (fun _ _ _ h=>h) (fun _ _ h=>h)
def Lg(P:Program)(t:TypeId)(l:Option Nat)(d:Option Tmp)(j i f:Nat)(cs:List AV)(ρ:Env)(H:aG)(K:Env->aG->Prop):Prop:=match H j with
 | some r=>(i<r.es.length/\cs.length=l.getD 1/\f+cs.length<=r.sz/\(l=none->∃i,P.info? t=some i/\i.size=1))/\K (upd ρ d .any) (aH H j (some { r with es:=r.es.set i (oY (r.es.getD i []) f cs) }))
 | none=>False
def Io(P:Program)(t:TypeId)(l:Option Nat)(d:Option Tmp)(j i f:Nat)(cs:List AV)(ρ:Env)(H:aG)(K:Env->aG->Prop):Prop:=
 Lg P t l d j i f cs ρ H K\/∃nl:List (Nat×TypeId×Nat),(∀x∈nl,cs[x.1]?=some (.v (.slice none 0 0))/\0<x.2.2)/\lE nl cs H fun cs H=>Lg P t l d j i f cs ρ H K
def aoB{P:Program}{d:Option Tmp}{t:TypeId}{j i f:Nat}{cs:List AV}{ρ:Env}{H:aG}{K:Env->aG->Prop}:aeI P d t (.op j i f) cs ρ H K=bV (ldT P t) (fun l=>Io P t l d j i f cs ρ H K):=by
 have E:∀cs H,BJ P ⟨d,.move (.tmp 0),0,"",#[],none⟩ t (.op j i f) cs ρ H K=bV (ldT P t) (fun l=>Lg P t l d j i f cs ρ H K):=by intro cs H;unfold BJ Lg;cases h1:H j <;> cases A:ldT P t <;> simp[bV,h1]
 unfold aeI xX Io;simp only[E];cases A:ldT P t <;> simp[bV]
def abL{P:Program}{t:TypeId}{m:Nat}{d:Option Tmp}{j i f:Nat}{cs:List AV}{ρ:Env}{H:aG}{K:Env->aG->Prop}{r:Row}(o:Nat)(e:TypeId)(sz:Nat)(O:cs[o]?=some (.v (.slice none 0 0))/\0<sz)(A:H j=some r)(h1:i<r.es.length/\cs.length=m/\f+cs.length<=r.sz)
  (h:∀k,H k=none->K (upd ρ d .any) (aH (aH H k (some ⟨e,sz,[]⟩)) j (some { r with es:=r.es.set i (oY (r.es.getD i []) f (cs.set o (.os k))) }))):Io P t (some m) d j i f cs ρ H K:=by
 refine .inr ⟨[(o,e,sz)],?_,fun k F=>?_⟩
 ·intro x J;simp only[List.mem_cons,List.not_mem_nil,or_false]at J;subst J;exact O
 ·have E:j≠k:=fun e=>by rw[e,F]at A;cases A
  unfold lE Lg;simp only[show aH H k (some (⟨e,sz,[]⟩:Row)) j=some r by rw[aH];rw[if_neg E];exact A];exact⟨⟨h1.1,by simpa using h1.2.1,by simpa using h1.2.2,by simp⟩,h k F⟩
@[congr] theorem wputE_c {P t l d j i f cs cs' ρ H K} (h':cs=cs'):Io P t l d j i f cs ρ H K=Io P t l d j i f cs' ρ H K:=h'▸rfl
def aM{P:Program}{t:TypeId}{m:Nat}{d:Option Tmp}{j i f:Nat}{cs:List AV}{ρ:Env}{H:aG}{K:Env->aG->Prop}{r:Row}(A:H j=some r)(h1:i<r.es.length/\cs.length=m/\f+cs.length<=r.sz)
  (h:K (upd ρ d .any) (aH H j (some { r with es:=r.es.set i (oY (r.es.getD i []) f cs) }))):Io P t (some m) d j i f cs ρ H K:=by
 refine .inl ?_;unfold Lg;simp only[A];exact⟨⟨h1.1,h1.2.1,h1.2.2,by simp⟩,h⟩
def cC{P:Program}{t:TypeId}{d:Option Tmp}{j i f:Nat}{cs:List AV}{ρ:Env}{H:aG}{K:Env->aG->Prop}{r:Row}(E:∃i,P.info? t=some i/\i.size=1)(A:H j=some r)(h1:i<r.es.length/\cs.length=1/\f+cs.length<=r.sz)
  (h:K (upd ρ d .any) (aH H j (some { r with es:=r.es.set i (oY (r.es.getD i []) f cs) }))):Io P t none d j i f cs ρ H K:=by
 refine .inl ?_;unfold Lg;simp only[A];exact⟨⟨h1.1,h1.2.1,h1.2.2,fun _=>E⟩,h⟩
def aAB:Int.toNat 0=0:=rfl
def aoZ{a b:Prop}:(a->b->a/\b)=True:=by simp;exact fun h1 A=>⟨h1,A⟩
attribute [go_sem ↓] aiD aoB
attribute [go_sem] aoB List.set_cons_zero List.set_cons_succ
attribute [go_sem] Int.reduceToNat aAB beq_true beq_false Bool.not_eq_true' Bool.and_eq_true aoZ
attribute [go_sem] aiD Lp H4 aaH Bool.or_true Bool.true_or Bool.false_or Bool.or_false
def dF{H:aG}{i j j':Nat}{r r':Row}(F:H i=some r)(E:j≠i)(A:H j'=none):aH (aH H j none) j' (some r') i=some r:=by
 have h1:i≠j':=fun e=>by subst e;rw[F]at A;simp at A
 rw[aD _ _ _ _ h1,aD _ _ _ _ (Ne.symm E),F]
def jW{H:aG}{i j:Nat}{r r':Row}(E:H i=some r)(A:H j=none):aH H j (some r') i=some r:=by
 have h1:i≠j:=fun e=>by subst e;rw[E]at A;simp at A
 rw[aD _ _ _ _ h1,E]
def aV{H:aG}{i j:Nat}{r:Row}(E:H i=some r)(A:H j=none):i≠j:=fun e=>by subst e;rw[E]at A;simp at A
def fR{H:aG}{r:Row}{F:Nat->aG->Prop}(h:∀i G,H i=none->G i=some r->(∀{j a},H j=some a->j≠i/\G j=some a)->F i G):rV H r F:=
 fun i A=>h i _ A (aB _ _ _) fun E=>⟨aV E A,jW E A⟩
def bP{P:Program}{t:TypeId}{m:Nat}{d:Option Tmp}{j i f:Nat}{cs:List AV}{ρ:Env}{H:aG}{K:Env->aG->Prop}{r:Row}(A:H j=none)(h1:i<r.es.length/\cs.length=m/\f+cs.length<=r.sz)
  (h:∀G:aG,G j=some { r with es:=r.es.set i (oY (r.es.getD i []) f cs) }->(∀{k b},H k=some b->k≠j/\G k=some b)->K (upd ρ d .any) G):Io P t (some m) d j i f cs ρ (aH H j (some r)) K:=
 aM (aB _ _ _) h1 (h _ (aB _ _ _) fun E=>⟨aV E A,(aD _ _ _ _ (aV E A)).trans (jW E A)⟩)
def upS{H G:aG}{i:Nat}{r:Row}(g:aH H i (some r)=G):G i=some r:=(congrFun g.symm i).trans (aB _ _ _)
def kpA{H G:aG}{i j:Nat}{a r:Option Row}(g:aH H i a=G)(n:j≠i)(R:H j=r):G j=r:=(congrFun g.symm j).trans ((aD _ _ _ _ n).trans R)
def kpB{H G:aG}{i j k:Nat}{a b r:Option Row}(g:aH (aH H i a) k b=G)(n:j≠k)(m:j≠i)(R:H j=r):G j=r:=(congrFun g.symm j).trans ((aD _ _ _ _ n).trans ((aD _ _ _ _ m).trans R))
def kB{P:Program}{C:mM}{PC:FuncId->List AV->aG->AV->Prop}{mt:Nat->Bool}{l:List Oper}{K:Env->aG->Prop}{m:Nat}{ρ:Env}{H:aG}(h:yY P C PC mt true l.toArray K l ρ H)(A:(m == l.length)=true:=by rfl)
 (E:Region.lexB .any l.toArray=true:=by kernel_rfl):wW P C PC mt l.toArray K m ρ H:=mC A E h
def tP{k n:Nat}{A B:Env->aG->Prop}{ρ:Env}{H:aG}(F:k<=n)(h1:k<n->A ρ H)(E:k=n->B ρ H):Bf (.v (.bool (decide ((k:Int)<(n:Int))))) A B ρ H:=
 aA (fun h=>h1 (by simpa using h)) (fun h=>E (by simp at h;omega))
def msr{n k:Nat}(h:k<n):n-aU (int ((k+1:Nat):Int))<n-aU (int (k:Int)):=by simp only[aN];omega
def opt{α:Type}(b:Bool)(f:α):List α:=match b with|true=>[f]|false=>[]
def jP{α:Type}{b:Bool}{f:α}(h:b=true):opt b f=[f]:=by rw[h];rfl
theorem jN{α:Type}{b:Bool}{f:α}(h:b=false):opt b f=[]:=by rw[h];rfl
theorem cK{α:Type}(b:Bool)(f:α):(opt b f).length<=1:=by cases b <;> simp[opt]
theorem pB{α:Type}{e:TypeId}{sz:Nat}{enc:α->List AV}{H:aG}{k:Nat}{l l':List α}{cs:List (List AV)}(h:cs=l'.map enc):aH H k (some ⟨e,sz,l.map enc++cs⟩) k=some (⟨e,sz,(l++l').map enc⟩:Row):=by rw[aB,h,List.map_append]
theorem fO{e:TypeId}{sz:Nat}{enc:Fault->List AV}{H:aG}{k:Nat}{l l':List Fault}{cs:List (List AV)}(h:cs=l'.map enc):aH H k (some ⟨e,sz,l.map enc++cs⟩) k=some (⟨e,sz,(l++l').map enc⟩:Row):=pB h
def iA{e:TypeId}{sz:Nat}{enc:Int->List AV}{H:aG}{k:Nat}{l l':List Int}{cs:List (List AV)}(h:cs=l'.map enc):aH H k (some ⟨e,sz,l.map enc++cs⟩) k=some (⟨e,sz,(l++l').map enc⟩:Row):=pB h
abbrev mZ(t:VType):Row:=⟨121,14,[bB t]⟩
abbrev nR(o:Order):Row:=⟨78,16,[aY o]⟩
abbrev yR(a:Arc):Row:=⟨119,6,[fK a]⟩
abbrev mA(l:List Int):Row:=⟨41,1,l.map aQ⟩
abbrev bN(l:List Fault):Row:=⟨134,2,l.map hJ⟩
def pcb(mt:Nat->Bool){f:FuncId}{fn:Func}{c:Code}{A:List ResultVar}{args:List AV}{r:AV}(O:Tryz.prog.funcs[f]? = some fn)(F:fn.body=some c)(J:fn.results=Array.mk A)(h:awp Tryz.prog (bK Tryz.prog) (dS Tryz.prog) mt c (Lp Tryz.prog A fun x H'=>Conv H' x r) (Ip args) bY)(E:Dz fn c args.length=true:=by kernel_rfl):PC Tryz.prog f args r:=PC.body mt mixed O F E (by rw[J];exact h)
def pcd{f:FuncId}{fn:Func}{c:Code}{A:List ResultVar}{args:List AV}{r:AV}(J:Tryz.prog.funcs[f]? = some fn)(F:fn.body=some c)(O:fn.results=Array.mk A)(h:awp Tryz.prog (bK Tryz.prog) (dS Tryz.prog) (fun _=>false) c (Lp Tryz.prog A fun x H'=>Conv H' x r) (Ip args) bY)(E:Dz fn c args.length=true:=by kernel_rfl):PC Tryz.prog f args r:=PC.body (fun _=>false) mixed J F E (by rw[O];exact h)
def ncb(mt:Nat->Bool){f:FuncId}{fn:Func}{c:Code}{E:List ResultVar}{args:List AV}{row:Row}{A:Nat->AV}(T:Tryz.prog.funcs[f]? = some fn)(J:fn.body=some c)(O:fn.results=Array.mk E)(h:awp Tryz.prog (bK Tryz.prog) (dS Tryz.prog) mt c (Lp Tryz.prog E fun x H'=>∃k,x=A k/\H' k=some row) (Ip args) bY)(F:Dz fn c args.length=true:=by kernel_rfl):NC Tryz.prog f args row A:=NC.body mt mixed T J F (by rw[O];exact h)
def kpR{H G:aG}{i j k:Nat}{a b r:Option Row}(g:aH (aH H i a) k b=G)(n:j≠k)(m:j≠i)(R:H j=r):G j=r:=(congrFun g.symm j).trans ((aD _ _ _ _ n).trans ((aD _ _ _ _ m).trans R))
def Xaa:∀{α:Type} {β:Type} {L:List α} (f:α->β),List.length (List.map f L)=List.length L:=@List.length_map
def Xab:∀(n:Nat),0<=n:=@Nat.zero_le
def Xac:∀{α:Type} {l:List α} {i:Nat} {a:α},l[i]?=some a->a∈l:=@List.mem_of_getElem?
def Xad:∀{α:Type} {l:List α},List.take (List.length l) l=l:=@List.take_length
def Xae:∀(n:Nat),n<=n:=@Nat.le_refl
theorem Xaf:∀{α:Type} {L bs:List α},List.length (L++bs)=List.length L+List.length bs:=@List.length_append
def Xag:∀{α:Type} {a:α} {L:List α},List.length (a::L)=List.length L+1:=@List.length_cons
def Xah:∀(a b:Bool),((a&&b)=true)=(a=true/\b=true):=@Bool.and_eq_true
def Xai:∀{m n:Nat},m∈List.range n↔m<n:=@List.mem_range
def Xaj:∀{α:Type} {p:α->Bool} {l:List α},List.all l p=true↔∀(x:α),x∈l->p x=true:=@List.all_eq_true
def Xak:∀{α:Type} {p:α->Bool} {l:List α},List.any l p=true↔∃x,x∈l/\p x=true:=@List.any_eq_true
def Xal:∀{n m k:Nat},n<=m->m<=k->n<=k:=@Nat.le_trans
def Xam:∀{x y:Bool},(x||y)=false↔x=false/\y=false:=@Bool.or_eq_false_iff
def Xan:∀{α:Type} {β:Type} {b:β} {f:α->β} {l:List α},b∈List.map f l↔∃a,a∈l/\f a=b:=@List.mem_map
theorem Xao:∀(n:Nat),Int.toNat ↑n=n:=@Int.toNat_natCast
def Xap:∀{α:Type} {p:α->Bool} {l:List α},List.any l p=false↔∀(x:α),x∈l->¬p x=true:=@List.any_eq_false
def Xaq:∀{α:Type} {β:Type} {f:α->β} {a:α} {l:List α},List.map f (a::l)=f a::List.map f l:=@List.map_cons
def Xar:∀{a b:Bool},a=b↔(a=true↔b=true):=@Bool.eq_iff_iff
def Xas:∀{n:Nat},n>0->∀{i j:Nat},i<=j->n^i<=n^j:=@Nat.pow_le_pow_right
def Xat:∀{α:Type} {a:α} {s t:List α},a∈s++t↔a∈s\/a∈t:=@List.mem_append
def Xau:∀(b:Bool),((!b)=true)=(b=false):=@Bool.not_eq_true'
def Xav:∀{α:Type} {i:Nat} {l:List α},List.length (List.take i l)=min i (List.length l):=@List.length_take
def Xaw:∀{α:Type} {β:Type} {f:α->β} {l₁ l₂:List α},List.map f (l₁++l₂)=List.map f l₁++List.map f l₂:=@List.map_append
def Xax:∀(a b:Bool),((a||b)=true)=(a=true\/b=true):=@Bool.or_eq_true
def Xay:∀{α:Type} [inst:BEq α] [LawfulBEq α] {a b:α},(a == b)=true↔a=b:=@beq_iff_eq
def Xaz:∀(a:Int),a<=a:=@Int.le_refl
def Xba:∀{α:Type} {b:α} {l:List α} {a:α},a∈b::l↔a=b\/a∈l:=@List.mem_cons
theorem Xbb:∀{α:Type} {i:Nat} {l:List α},List.length l<=i->List.take i l=l:=@List.take_of_length_le
def Xbc:∀(b:Bool),(true&&b)=b:=@Bool.true_and
def Xbd:∀{α:Type} {β:Type} {a:α} {l:List α} {f:β->α->β} {b:β},List.foldl f b (a::l)=List.foldl f (f b a) l:=@List.foldl_cons
theorem Xbe:∀{α:Type} {p q:List α},p++q=[]↔p=[]/\q=[]:=@List.append_eq_nil_iff
def Xbf:∀{a b:Nat},a<b->a%b=a:=@Nat.mod_eq_of_lt
def Xbg:∀{α:Type} {p:α->Bool} {L:List α} {x:α},x∈List.filter p L↔x∈L/\p x=true:=@List.mem_filter
def Xbh:∀{n m k:Nat},n<m->m<=k->n<k:=@Nat.lt_of_lt_of_le
def Xbi:(false=true)=False:=@Bool.false_eq_true
def Xbj:∀(b:Bool),((!b)=false)=(b=true):=@Bool.not_eq_false'
def Xbk:∀{α:Type} (L bs cs:List α),L++bs++cs=L++(bs++cs):=@List.append_assoc
def Xbl:∀{α:Type} (L:List α),L++[]=L:=@List.append_nil
def Xbm:∀{α:Type} {L:List α} {i:Nat} {a:α},List.length (List.set L i a)=List.length L:=@List.length_set
def Xbn:∀{α:Type} (L:List α),[]++L=L:=@List.nil_append
def Xbo:∀(b:Bool),(b&&true)=b:=@Bool.and_true
def Xbp:∀{α:Type} {β:Type} {f:α->List β} {b:β} {l:List α},b∈List.flatMap f l↔∃a,a∈l/\b∈f a:=@List.mem_flatMap
def Xbq:∀{α:Type} {β:Type} {f:β->α->β} {b:β} {l l':List α},List.foldl f b (l++l')=List.foldl f (List.foldl f b l) l':=@List.foldl_append
def Xbr:∀{α:Type} {a b:α},Option.getD (some a) b=a:=@Option.getD_some
def Xbs:∀{α:Type} {a b:α},a∈[b]↔a=b:=@List.mem_singleton
def Xbt:∀(b:Bool),(false||b)=b:=@Bool.false_or
def Xbu:∀(b:Bool),(¬b=true)=(b=false):=@Bool.not_eq_true
theorem Xbv:∀{n:Nat},List.range (Nat.succ n)=List.range n++[n]:=@List.range_succ
def Xbw:∀{α:Type} {n:Nat} {a:α},List.length (List.replicate n a)=n:=@List.length_replicate
def Xbx:∀{α:Type} {β:Type} {f:α->β} {l:List α},List.map f l=[]↔l=[]:=@List.map_eq_nil_iff
def Xby:∀{α:Type} {l:List α},List.drop 0 l=l:=@List.drop_zero
def Xbz:∀{b:Bool},b=false↔b≠true:=@Bool.eq_false_iff
def Xca:∀{α:Type} {l:List α},List.drop (List.length l) l=[]:=@List.drop_length
def Xcb:∀(n m:Nat),n<m\/n>=m:=@Nat.lt_or_ge
theorem Xcc:∀{x y n:Nat},x<2^n->y<2^n->x ||| y<2^n:=@Nat.or_lt_two_pow
def Xcd:∀{α:Type} {β:Type} {l:List α} {f:α->List β},List.flatMap f l=[]↔∀(x:α),x∈l->f x=[]:=@List.flatMap_eq_nil_iff
def Xce:∀{x i:Nat},x<2^i->Nat.testBit x i=false:=@Nat.testBit_lt_two_pow
def Xcf:∀{a b:Int},0<=a->Int.tdiv a b=a/b:=@Int.tdiv_eq_ediv_of_nonneg
def Xcg:(!false)=true:=@Bool.not_false
def Xch:∀(n:Nat),Int.natAbs ↑n=n:=@Int.natAbs_natCast
theorem Xci:∀{a m n:Nat},1<a->m<n->a^m<a^n:=@Nat.pow_lt_pow_right
def Xcj:∀(n:Nat),0+n=n:=@Nat.zero_add
def Xck:∀{n:Nat},List.length (List.range n)=n:=@List.length_range
def Xcl:(!true)=false:=@Bool.not_true
def Xcm:∀{i x:Nat},Nat.testBit x i=decide (x/2^i%2=1):=@Nat.testBit_eq_decide_div_mod_eq
def Xcn:∀{α:Type} {l:List α},List.length l=0->l=[]:=@List.eq_nil_of_length_eq_zero
def aW(k:Nat)(h:k<=4611686018427387904:=by omega):IntKind.i64.wrap ((k:Int)+1)=((k+1:Nat):Int):=qK h
def aO{f:FuncId}{args:List AV}{r:AV}{H:aG}{K:AV->aG->Prop}(h:PC Tryz.prog f args r)(A:K r H):bK Tryz.prog f args H K:=h.use A
end Go.Proofs.YthephioccidfgaaGreatDoor
