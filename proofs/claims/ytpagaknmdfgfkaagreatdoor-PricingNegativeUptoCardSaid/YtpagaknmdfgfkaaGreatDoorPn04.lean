import Derived.Test.YtpagaknmdfgfkaaGreatDoorPn03
set_option linter.unusedSimpArgs false
set_option linter.unusedVariables false
set_option linter.defProp false
set_option maxRecDepth 100000
namespace Go.Proofs.YtpagaknmdfgfkaaGreatDoor
open Go.Aw Go.Aw.D Go.Proofs Ty
abbrev int(n:Int):AV:=.v (.int .i64 n)
abbrev str(s:ByteArray):AV:=.v (.string s)
abbrev boo(b:Bool):AV:=.v (.bool b)
def bA{α:Type}{l:List α}{k:Nat}{x:α}(h:l[k]?=some x):l.take (k+1)=l.take k++[x]:=by rw[List.take_add_one,h];rfl
def aK{α:Type}{l:List α}{k:Nat}(h:k<l.length):∃x,l[k]?=some x:=⟨l[k],List.getElem?_eq_getElem h⟩
def inB{k n:Nat}(h:k<n):0<=(k:Int)/\(k:Int)<(n:Int):=by omega
def mC{k:Nat}(h:k<=4611686018427387904):IntKind.i64.wrap ((k:Int)+1)=((k+1:Nat):Int):=by rw[aU (by omega)];omega
def alE{k:Nat}(h:k<=4611686018427387904):(IntKind.i64.wrap ((k:Int)-1)).toNat=k-1:=by rw[aU (by omega)];omega
theorem xK{k:Nat}(h:k<=4611686018427387904):IntKind.i64.wrap ((k:Int)-1)=(k:Int)-1:=aU (by omega)
def GV(e:TypeId×Nat×Nat)(d:Option Tmp)(j:Nat)(x:AV)(ρ:Env)(H:aG)(K:Env->aG->Prop):Prop:=match H j with
 | some r => CV H x fun news => (r.e = e.1 /\ r.sz = e.2.1 /\ dM e.2.1 news /\ (r.es.length + news.length) * e.2.2 <= 140737488355328) /\
       ∀k',H k'=none->K (upd ρ d (.os k')) (aM (aM H j none) k' (some ⟨e.1,e.2.1,r.es++news⟩))
 | none=>False
def akV{P:Program}{d:Option Tmp}{t:TypeId}{j:Nat}{x:AV}{ρ:Env}{H:aG}{K:Env->aG->Prop}:NS P d t (.os j) x ρ H K=cC (cN P t) (fun e=>GV e d j x ρ H K):=by
 unfold NS wZ GV;cases cN P t with
 | none=>rfl
 | some e=>obtain⟨a,b,c⟩:=e;rfl
@[congr] theorem wappE_c {e d j x x' ρ H K} (h':x=x'):GV e d j x ρ H K=GV e d j x' ρ H K:=h'▸rfl
@[congr] theorem FCalls_c {P f a a' H R} (h':a=a'):bK P f a H R=bK P f a' H R:=h'▸rfl
def aY{e:TypeId×Nat×Nat}{d:Option Tmp}{j:Nat}{news:List (List AV)}{ρ:Env}{H:aG}{K:Env->aG->Prop}{r:Row}(J:H j=some r)
  (h1:r.e=e.1/\r.sz=e.2.1) (I:dM e.2.1 news) (F:(r.es.length+news.length)*e.2.2<=140737488355328)
  (h:∀E,H E=none->K (upd ρ d (.os E)) (aM (aM H j none) E (some ⟨e.1,e.2.1,r.es++news⟩))):GV e d j (.sl news) ρ H K:=by
 unfold GV;simp only[J];exact⟨⟨h1.1,h1.2,I,F⟩,h⟩
def DN{e:TypeId×Nat×Nat}{d:Option Tmp}{j i:Nat}{r':Row}{ρ:Env}{H:aG}{K:Env->aG->Prop}{r:Row}(J:H j=some r)(O:H i=some r')
  (h1:r.e=e.1/\r.sz=e.2.1) (I:dM e.2.1 r'.es) (F:(r.es.length+r'.es.length)*e.2.2<=140737488355328)
  (h:∀E,H E=none->K (upd ρ d (.os E)) (aM (aM H j none) E (some ⟨e.1,e.2.1,r.es++r'.es⟩))):GV e d j (.os i) ρ H K:=by
 unfold GV;simp only[J,CV,O];exact⟨⟨h1.1,h1.2,I,F⟩,h⟩
def bN{P:Program}{C:mN}{PC:FuncId->List AV->aG->AV->Prop}{mt:Nat->Bool}{a b:Code}{x:AV}{K:Env->aG->Prop}{Q:Ex->Env->aG->Prop}{ρ:Env}{H:aG}(J:Env->aG->Prop)(h1:∀ρ H,J ρ H->K ρ H)
 (E:∀K:Env->aG->Prop,(∀ρ H,J ρ H->K ρ H)->Bb x (awp P C PC mt a (Ex.seq K Q)) (awp P C PC mt b (Ex.seq K Q)) ρ H):Bb x (awp P C PC mt a (Ex.seq K Q)) (awp P C PC mt b (Ex.seq K Q)) ρ H:=E K h1
def rV{x:AV}{A B:Env->aG->Prop}{ρ:Env}{H:aG}(J:Env->aG->Prop)(h1:J ρ H)(E:∀ρ H,J ρ H->Bb x A B ρ H):Bb x A B ρ H:=E ρ H h1
def JQ{P:Program}{C:mN}{PC:FuncId->List AV->aG->AV->Prop}{mt:Nat->Bool}{c:Code}{id:Nat}{Q:Ex->Env->aG->Prop}{ρ:Env}{H:aG}(J:Env->aG->Prop)(h1:∀ρ H,J ρ H->Q .normal ρ H)
  (E:∀Q':Ex->Env->aG->Prop,(∀ρ H,J ρ H->Q' (.exit id) ρ H)->(∀ρ H,Q .ret ρ H->Q' .ret ρ H)->Xh (awp P C PC mt c) Q' ρ H):Xh (awp P C PC mt c) (Ex.blk id Q) ρ H:=
 E (Ex.blk id Q) (fun ρ H h=>by rw[Rb];exact h1 ρ H h) (fun ρ H h=>by rw[XQ];exact h)
def gU{P:Program}{C:mN}{PC:FuncId->List AV->aG->AV->Prop}{mt:Nat->Bool}{a b:Code}{x:AV}{Q:Ex->Env->aG->Prop}{ρ:Env}{H:aG}(J:Env->aG->Prop)(h1:∀ρ H,J ρ H->Q .normal ρ H)
  (E:∀Q':Ex->Env->aG->Prop,(∀ρ H,J ρ H->Q' .normal ρ H)->(∀i ρ H,Q (.exit i) ρ H->Q' (.exit i) ρ H)->(∀ρ H,Q .ret ρ H->Q' .ret ρ H)->Bb x (awp P C PC mt a Q') (awp P C PC mt b Q') ρ H):Bb x (awp P C PC mt a Q) (awp P C PC mt b Q) ρ H:=
 E Q h1 (fun _ _ _ h=>h) (fun _ _ h=>h)
def JA(P:Program)(t:TypeId)(l:Option Nat)(d:Option Tmp)(j i f:Nat)(cs:List AV)(ρ:Env)(H:aG)(K:Env->aG->Prop):Prop:=match H j with
 | some r=>(i<r.es.length/\cs.length=l.getD 1/\f+cs.length<=r.sz/\(l=none->∃i,P.info? t=some i/\i.size=1))/\K (upd ρ d .any) (aM H j (some { r with es:=r.es.set i (oN (r.es.getD i []) f cs) }))
 | none=>False
def GX(P:Program)(t:TypeId)(l:Option Nat)(d:Option Tmp)(j i f:Nat)(cs:List AV)(ρ:Env)(H:aG)(K:Env->aG->Prop):Prop:=
 JA P t l d j i f cs ρ H K\/∃nl:List (Nat×TypeId×Nat),(∀x∈nl,cs[x.1]?=some (.v (.slice none 0 0))/\0<x.2.2)/\lQ nl cs H fun cs H=>JA P t l d j i f cs ρ H K
def acQ{P:Program}{d:Option Tmp}{t:TypeId}{j i f:Nat}{cs:List AV}{ρ:Env}{H:aG}{K:Env->aG->Prop}:ZK P d t (.op j i f) cs ρ H K=cC (ldT P t) (fun l=>GX P t l d j i f cs ρ H K):=by
 have F:∀cs H,Br P ⟨d,.move (.tmp 0),0,"",#[],none⟩ t (.op j i f) cs ρ H K=cC (ldT P t) (fun l=>JA P t l d j i f cs ρ H K):=by intro cs H;unfold Br JA;cases h1:H j <;> cases E:ldT P t <;> simp[cC,h1]
 unfold ZK xB GX;simp only[F];cases E:ldT P t <;> simp[cC]
def L5{P:Program}{t:TypeId}{m:Nat}{d:Option Tmp}{j i f:Nat}{cs:List AV}{ρ:Env}{H:aG}{K:Env->aG->Prop}{r:Row}(o:Nat)(e:TypeId)(sz:Nat)(O:cs[o]?=some (.v (.slice none 0 0))/\0<sz)(E:H j=some r)(h1:i<r.es.length/\cs.length=m/\f+cs.length<=r.sz)
  (h:∀k,H k=none->K (upd ρ d .any) (aM (aM H k (some ⟨e,sz,[]⟩)) j (some { r with es:=r.es.set i (oN (r.es.getD i []) f (cs.set o (.os k))) }))):GX P t (some m) d j i f cs ρ H K:=by
 refine .inr ⟨[(o,e,sz)],?_,fun k J=>?_⟩
 ·intro x I;simp only[List.mem_cons,List.not_mem_nil,or_false]at I;subst I;exact O
 ·have F:j≠k:=fun e=>by rw[e,J]at E;cases E
  unfold lQ JA;simp only[show aM H k (some (⟨e,sz,[]⟩:Row)) j=some r by rw[aM];rw[if_neg F];exact E];exact⟨⟨h1.1,by simpa using h1.2.1,by simpa using h1.2.2,by simp⟩,h k J⟩
@[congr] theorem wputE_c {P t l d j i f cs cs' ρ H K} (h':cs=cs'):GX P t l d j i f cs ρ H K=GX P t l d j i f cs' ρ H K:=h'▸rfl
def aI{P:Program}{t:TypeId}{m:Nat}{d:Option Tmp}{j i f:Nat}{cs:List AV}{ρ:Env}{H:aG}{K:Env->aG->Prop}{r:Row}(E:H j=some r)(h1:i<r.es.length/\cs.length=m/\f+cs.length<=r.sz)
  (h:K (upd ρ d .any) (aM H j (some { r with es:=r.es.set i (oN (r.es.getD i []) f cs) }))):GX P t (some m) d j i f cs ρ H K:=by
 refine .inl ?_;unfold JA;simp only[E];exact⟨⟨h1.1,h1.2.1,h1.2.2,by simp⟩,h⟩
def dP{P:Program}{t:TypeId}{d:Option Tmp}{j i f:Nat}{cs:List AV}{ρ:Env}{H:aG}{K:Env->aG->Prop}{r:Row}(E:∃i,P.info? t=some i/\i.size=1)(F:H j=some r)(h1:i<r.es.length/\cs.length=1/\f+cs.length<=r.sz)
  (h:K (upd ρ d .any) (aM H j (some { r with es:=r.es.set i (oN (r.es.getD i []) f cs) }))):GX P t none d j i f cs ρ H K:=by
 refine .inl ?_;unfold JA;simp only[F];exact⟨⟨h1.1,h1.2.1,h1.2.2,fun _=>E⟩,h⟩
def auK:Int.toNat 0=0:=rfl
def acT{a b:Prop}:(a->b->a/\b)=True:=by simp;exact fun h1 E=>⟨h1,E⟩
attribute [go_sem ↓] akV acQ
attribute [go_sem] acQ List.set_cons_zero List.set_cons_succ
attribute [go_sem] Int.reduceToNat auK beq_true beq_false Bool.not_eq_true' Bool.and_eq_true acT
attribute [go_sem] akV KH GP Xs Bool.or_true Bool.true_or Bool.false_or Bool.or_false
def dL{H:aG}{i j F:Nat}{r r':Row}(J:H i=some r)(I:j≠i)(E:H F=none):aM (aM H j none) F (some r') i=some r:=by
 have h1:i≠F:=fun e=>by subst e;rw[J]at E;simp at E
 rw[aJ _ _ _ _ h1,aJ _ _ _ _ (Ne.symm I),J]
def eT{H:aG}{i j:Nat}{r r':Row}(F:H i=some r)(E:H j=none):aM H j (some r') i=some r:=by
 have h1:i≠j:=fun e=>by subst e;rw[F]at E;simp at E
 rw[aJ _ _ _ _ h1,F]
def bE{H:aG}{i j:Nat}{r:Row}(F:H i=some r)(E:H j=none):i≠j:=fun e=>by subst e;rw[F]at E;simp at E
def fI{H:aG}{r:Row}{F:Nat->aG->Prop}(h:∀i G,H i=none->G i=some r->(∀{j a},H j=some a->j≠i/\G j=some a)->F i G):rO H r F:=
 fun i E=>h i _ E (aB _ _ _) fun I=>⟨bE I E,eT I E⟩
def cJ{P:Program}{t:TypeId}{m:Nat}{d:Option Tmp}{j i f:Nat}{cs:List AV}{ρ:Env}{H:aG}{K:Env->aG->Prop}{r:Row}(F:H j=none)(h1:i<r.es.length/\cs.length=m/\f+cs.length<=r.sz)
  (h:∀G:aG,G j=some { r with es:=r.es.set i (oN (r.es.getD i []) f cs) }->(∀{k b},H k=some b->k≠j/\G k=some b)->K (upd ρ d .any) G):GX P t (some m) d j i f cs ρ (aM H j (some r)) K:=
 aI (aB _ _ _) h1 (h _ (aB _ _ _) fun E=>⟨bE E F,(aJ _ _ _ _ (bE E F)).trans (eT E F)⟩)
def upS{H G:aG}{i:Nat}{r:Row}(g:aM H i (some r)=G):G i=some r:=(congrFun g.symm i).trans (aB _ _ _)
def kpA{H G:aG}{i j:Nat}{a r:Option Row}(g:aM H i a=G)(n:j≠i)(R:H j=r):G j=r:=(congrFun g.symm j).trans ((aJ _ _ _ _ n).trans R)
def kpB{H G:aG}{i j k:Nat}{a b r:Option Row}(g:aM (aM H i a) k b=G)(n:j≠k)(m:j≠i)(R:H j=r):G j=r:=(congrFun g.symm j).trans ((aJ _ _ _ _ n).trans ((aJ _ _ _ _ m).trans R))
def dK{P:Program}{C:mN}{PC:FuncId->List AV->aG->AV->Prop}{mt:Nat->Bool}{l:List Oper}{K:Env->aG->Prop}{m:Nat}{ρ:Env}{H:aG}(h:yU P C PC mt true l.toArray K l ρ H)(E:(m == l.length)=true:=by rfl)
 (F:Region.lexB .any l.toArray=true:=by kernel_rfl):vV P C PC mt l.toArray K m ρ H:=jK E F h
def jC{k n:Nat}{A B:Env->aG->Prop}{ρ:Env}{H:aG}(F:k<=n)(h1:k<n->A ρ H)(E:k=n->B ρ H):Bb (.v (.bool (decide ((k:Int)<(n:Int))))) A B ρ H:=
 aA (fun h=>h1 (by simpa using h)) (fun h=>E (by simp at h;omega))
def msr{n k:Nat}(h:k<n):n-aR (int ((k+1:Nat):Int))<n-aR (int (k:Int)):=by simp only[aL];omega
def opt{α:Type}(b:Bool)(f:α):List α:=match b with|true=>[f]|false=>[]
def jQ{α:Type}{b:Bool}{f:α}(h:b=true):opt b f=[f]:=by rw[h];rfl
def jP{α:Type}{b:Bool}{f:α}(h:b=false):opt b f=[]:=by rw[h];rfl
def cT{α:Type}(b:Bool)(f:α):(opt b f).length<=1:=by cases b <;> simp[opt]
def kZ{α:Type}{e:TypeId}{sz:Nat}{enc:α->List AV}{H:aG}{k:Nat}{l l':List α}{cs:List (List AV)}(h:cs=l'.map enc):aM H k (some ⟨e,sz,l.map enc++cs⟩) k=some (⟨e,sz,(l++l').map enc⟩:Row):=by rw[aB,h,List.map_append]
def gE{e:TypeId}{sz:Nat}{enc:Fault->List AV}{H:aG}{k:Nat}{l l':List Fault}{cs:List (List AV)}(h:cs=l'.map enc):aM H k (some ⟨e,sz,l.map enc++cs⟩) k=some (⟨e,sz,(l++l').map enc⟩:Row):=kZ h
def iJ{e:TypeId}{sz:Nat}{enc:Int->List AV}{H:aG}{k:Nat}{l l':List Int}{cs:List (List AV)}(h:cs=l'.map enc):aM H k (some ⟨e,sz,l.map enc++cs⟩) k=some (⟨e,sz,(l++l').map enc⟩:Row):=kZ h
abbrev kY(t:VType):Row:=⟨95,14,[bF t]⟩
abbrev nI(o:Order):Row:=⟨93,16,[bJ o]⟩
abbrev yF(a:Arc):Row:=⟨88,6,[gH a]⟩
abbrev mF(l:List Int):Row:=⟨45,1,l.map bC⟩
abbrev bU(l:List Fault):Row:=⟨119,2,l.map iH⟩
def pcb(mt:Nat->Bool){f:FuncId}{fn:Func}{c:Code}{E:List ResultVar}{args:List AV}{r:AV}(I:Tryz.prog.funcs[f]? = some fn)(F:fn.body=some c)(J:fn.results=Array.mk E)(h:awp Tryz.prog (bK Tryz.prog) (eV Tryz.prog) mt c (KH Tryz.prog E fun x H'=>Conv H' x r) (Gg args) bQ)(O:Di fn c args.length=true:=by kernel_rfl):PC Tryz.prog f args r:=PC.body mt mixed I F O (by rw[J];exact h)
def pcd{f:FuncId}{fn:Func}{c:Code}{E:List ResultVar}{args:List AV}{r:AV}(I:Tryz.prog.funcs[f]? = some fn)(F:fn.body=some c)(J:fn.results=Array.mk E)(h:awp Tryz.prog (bK Tryz.prog) (eV Tryz.prog) (fun _=>false) c (KH Tryz.prog E fun x H'=>Conv H' x r) (Gg args) bQ)(O:Di fn c args.length=true:=by kernel_rfl):PC Tryz.prog f args r:=PC.body (fun _=>false) mixed I F O (by rw[J];exact h)
def ncb(mt:Nat->Bool){f:FuncId}{fn:Func}{c:Code}{F:List ResultVar}{args:List AV}{row:Row}{E:Nat->AV}(J:Tryz.prog.funcs[f]? = some fn)(I:fn.body=some c)(O:fn.results=Array.mk F)(h:awp Tryz.prog (bK Tryz.prog) (eV Tryz.prog) mt c (KH Tryz.prog F fun x H'=>∃k,x=E k/\H' k=some row) (Gg args) bQ)(T:Di fn c args.length=true:=by kernel_rfl):NC Tryz.prog f args row E:=NC.body mt mixed J I T (by rw[O];exact h)
def kpR{H G:aG}{i j k:Nat}{a b r:Option Row}(g:aM (aM H i a) k b=G)(n:j≠k)(m:j≠i)(R:H j=r):G j=r:=(congrFun g.symm j).trans ((aJ _ _ _ _ n).trans ((aJ _ _ _ _ m).trans R))
def Xaa:∀(n:Nat),0<=n:=@Nat.zero_le
def Xab:∀{α:Type} {β:Type} {L:List α} (f:α->β),List.length (List.map f L)=List.length L:=@List.length_map
def Xac:∀{α:Type} {l:List α} {i:Nat} {a:α},l[i]?=some a->a∈l:=@List.mem_of_getElem?
def Xad:∀{α:Type} {l:List α},List.take (List.length l) l=l:=@List.take_length
def Xae:∀{α:Type} {L bs:List α},List.length (L++bs)=List.length L+List.length bs:=@List.length_append
def Xaf:∀(n:Nat),n<=n:=@Nat.le_refl
def Xag:∀{x y:Bool},(x||y)=false↔x=false/\y=false:=@Bool.or_eq_false_iff
def Xah:∀{α:Type} (L:List α),L++[]=L:=@List.append_nil
def Xai:∀{α:Type} {a:α} {L:List α},List.length (a::L)=List.length L+1:=@List.length_cons
def Xaj:∀{α:Type} {p:α->Bool} {l:List α},List.all l p=true↔∀(x:α),x∈l->p x=true:=@List.all_eq_true
def Xak:∀(a b:Bool),((a&&b)=true)=(a=true/\b=true):=@Bool.and_eq_true
def Xal:∀{n m k:Nat},n<=m->m<=k->n<=k:=@Nat.le_trans
def Xam:∀{α:Type} {β:Type} {f:α->β} {l₁ l₂:List α},List.map f (l₁++l₂)=List.map f l₁++List.map f l₂:=@List.map_append
theorem Xan:∀{α:Type} {i:Nat} {l:List α},List.length l<=i->List.take i l=l:=@List.take_of_length_le
def Xao:∀(n:Nat),Int.toNat ↑n=n:=@Int.toNat_natCast
def Xap:∀{α:Type} {i:Nat} {l:List α},List.length (List.take i l)=min i (List.length l):=@List.length_take
def Xaq:∀{α:Type} (L bs cs:List α),L++bs++cs=L++(bs++cs):=@List.append_assoc
def Xar:∀{a b:Bool},a=b↔(a=true↔b=true):=@Bool.eq_iff_iff
def Xas:∀{α:Type} {p:α->Bool} {l:List α},List.any l p=true↔∃x,x∈l/\p x=true:=@List.any_eq_true
def Xat:∀{m n:Nat},m∈List.range n↔m<n:=@List.mem_range
def Xau:∀{n:Nat},n>0->∀{i j:Nat},i<=j->n^i<=n^j:=@Nat.pow_le_pow_right
def Xav:∀{α:Type} [inst:BEq α] [LawfulBEq α] {a b:α},(a == b)=true↔a=b:=@beq_iff_eq
def Xaw:∀{α:Type} {a b:α},a∈[b]↔a=b:=@List.mem_singleton
def Xax:∀(b:Bool),((!b)=true)=(b=false):=@Bool.not_eq_true'
theorem Xay:∀(n m:Nat),n<m\/n>=m:=@Nat.lt_or_ge
def Xaz:∀(b:Bool),(true&&b)=b:=@Bool.true_and
def Xba:∀{α:Type} {β:Type} {f:α->β} {a:α} {l:List α},List.map f (a::l)=f a::List.map f l:=@List.map_cons
def Xbb:∀{α:Type} {a:α} {s t:List α},a∈s++t↔a∈s\/a∈t:=@List.mem_append
def Xbc:∀{α:Type} {b:α} {l:List α} {a:α},a∈b::l↔a=b\/a∈l:=@List.mem_cons
def Xbd:∀{n:Nat},List.length (List.range n)=n:=@List.length_range
def Xbe:∀{α:Type} {β:Type} {b:β} {f:α->β} {l:List α},b∈List.map f l↔∃a,a∈l/\f a=b:=@List.mem_map
def Xbf:∀{α:Type} {p:α->Bool} {l:List α},List.any l p=false↔∀(x:α),x∈l->¬p x=true:=@List.any_eq_false
def Xbg:(false=true)=False:=@Bool.false_eq_true
def Xbh:∀(b:Bool),(b&&true)=b:=@Bool.and_true
theorem Xbi:∀{n:Nat},List.range (Nat.succ n)=List.range n++[n]:=@List.range_succ
def Xbj:∀(n m:Nat),n^Nat.succ m=n^m*n:=@Nat.pow_succ
def Xbk:∀{a b:Nat},a<b->a%b=a:=@Nat.mod_eq_of_lt
def Xbl:∀{α:Type} {a b:α},Option.getD (some a) b=a:=@Option.getD_some
def Xbm:∀{α:Type} {β:Type} {f:β->α->β} {b:β} {l l':List α},List.foldl f b (l++l')=List.foldl f (List.foldl f b l) l':=@List.foldl_append
def Xbn:∀{α:Type} (L:List α),[]++L=L:=@List.nil_append
def Xbo:∀(n:Nat),Int.natAbs ↑n=n:=@Int.natAbs_natCast
def Xbp:∀{α:Type} {l:List α},List.length l=0↔l=[]:=@List.length_eq_zero_iff
def Xbq:∀(a:Int),a<=a:=@Int.le_refl
def Xbr:∀{α:Type} {i:Nat} {l:List α},List.length (List.drop i l)=List.length l-i:=@List.length_drop
theorem Xbs:∀{α:Type} {p q:List α},p++q=[]↔p=[]/\q=[]:=@List.append_eq_nil_iff
def Xbt:∀{α:Type} {a:α} {L:List α} (bs:List α),a∈L->a∈L++bs:=@List.mem_append_left
def Xbu:∀{n m k:Nat},n<m->m<=k->n<k:=@Nat.lt_of_lt_of_le
def Xbv:∀{α:Type} {β:Type} {a:α} {l:List α} {f:β->α->β} {b:β},List.foldl f b (a::l)=List.foldl f (f b a) l:=@List.foldl_cons
def Xbw:∀(b:Bool),((!b)=false)=(b=true):=@Bool.not_eq_false'
def Xbx:∀{α:Type} {l:List α},List.drop 0 l=l:=@List.drop_zero
def Xby:∀(x:Nat) {y:Nat},0<y->x%y<y:=@Nat.mod_lt
def Xbz:∀{α:Type} {β:Type} {f:α->β},List.map f []=[]:=@List.map_nil
def Xca:∀(b:Bool),(false||b)=b:=@Bool.false_or
def Xcb:∀{α:Type} {L:List α} {i:Nat} {a:α},List.length (List.set L i a)=List.length L:=@List.length_set
def Xcc:∀{α:Type} {i:Nat} {l:List α},List.length l<=i->List.drop i l=[]:=@List.drop_of_length_le
def Xcd:∀{α:Type} {β:Type} {xs ys:List α} {f:α->List β},List.flatMap f (xs++ys)=List.flatMap f xs++List.flatMap f ys:=@List.flatMap_append
def Xce:∀{a b:Int},0<=a->Int.tdiv a b=a/b:=@Int.tdiv_eq_ediv_of_nonneg
def Xcf:∀(a b:Int),a<b\/b<=a:=@Int.lt_or_le
def Xcg:∀(n:Nat),0+n=n:=@Nat.zero_add
def Xch:∀{α:Type} {a:α} {L bs:List α},a::L++bs=a::(L++bs):=@List.cons_append
def Xci:∀{α:Type} (i:Nat) (l:List α),List.take i l++List.drop i l=l:=@List.take_append_drop
def Xcj:∀{α:Type} {l:List α},List.drop (List.length l) l=[]:=@List.drop_length
theorem Xck:∀{α:Type} {i:Nat} {l:List α} (h:i<List.length l),List.drop i l=l[i]::List.drop (i+1) l:=@List.drop_eq_getElem_cons
def Xcl:∀(n m:Nat),n+m=m+n:=@Nat.add_comm
def Xcm:∀(a b:Bool),((a||b)=true)=(a=true\/b=true):=@Bool.or_eq_true
def Xcn:∀{α:Type} (p:α->Bool) (l:List α),List.length (List.filter p l)<=List.length l:=@List.length_filter_le
def Xco:∀{α:Type} {i:Nat} {a:α} {l:List α},a∈List.take i l->a∈l:=@List.mem_of_mem_take
def Xcp:∀(n k:Nat),n/k<=n:=@Nat.div_le_self
def Xcq:∀{α:Type} {a:α} {l:List α},a∈a::l:=@List.mem_cons_self
def Xcr:∀{a b:Nat},a<=b->min a b=a:=@Nat.min_eq_left
def Xcs:∀{a b:Int},0<=a->Int.tmod a b=a%b:=@Int.tmod_eq_emod_of_nonneg
def Xct:(!true)=false:=@Bool.not_true
def Xcu:∀(b:Bool),(¬b=true)=(b=false):=@Bool.not_eq_true
def Xcv:∀{x i:Nat},x<2^i->Nat.testBit x i=false:=@Nat.testBit_lt_two_pow
def Xcw:∀{α:Type} {b:α} (L:List α) {bs:List α},b∈bs->b∈L++bs:=@List.mem_append_right
def Xcx:∀{n m:Nat} (k:Nat),n<=m->n*k<=m*k:=@Nat.mul_le_mul_right
def Xcy:(!false)=true:=@Bool.not_false
def Xcz:∀{b:Bool},b=false↔b≠true:=@Bool.eq_false_iff
def Xda:∀{a m n:Nat},1<a->m<n->a^m<a^n:=@Nat.pow_lt_pow_right
def Xdb:∀{i x:Nat},Nat.testBit x i=decide (x/2^i%2=1):=@Nat.testBit_eq_decide_div_mod_eq
def aQ(k:Nat)(h:k<=4611686018427387904:=by omega):IntKind.i64.wrap ((k:Int)+1)=((k+1:Nat):Int):=mC h
def aH{f:FuncId}{args:List AV}{r:AV}{H:aG}{K:AV->aG->Prop}(h:PC Tryz.prog f args r)(E:K r H):bK Tryz.prog f args H K:=h.use E
end Go.Proofs.YtpagaknmdfgfkaaGreatDoor
