import Derived.Test.YtgncgpcpbadfnaaGreatDoorVc05
set_option linter.unusedSimpArgs false
set_option linter.unusedVariables false
set_option linter.defProp false
set_option maxRecDepth 100000
namespace Go.Proofs.YtgncgpcpbadfnaaGreatDoor
open Go.Aw Go.Aw.D Go.Proofs Ty
abbrev int(n:Int):AV:=.v (.int .i64 n)
abbrev str(s:ByteArray):AV:=.v (.string s)
abbrev boo(b:Bool):AV:=.v (.bool b)
def bE{α:Type}{l:List α}{k:Nat}{x:α}(h:l[k]?=some x):l.take (k+1)=l.take k++[x]:=by rw[List.take_add_one,h];rfl
def aM{α:Type}{l:List α}{k:Nat}(h:k<l.length):∃x,l[k]?=some x:=⟨l[k],List.getElem?_eq_getElem h⟩
def inB{k n:Nat}(h:k<n):0<=(k:Int)/\(k:Int)<(n:Int):=by omega
def mX{k:Nat}(h:k<=4611686018427387904):IntKind.i64.wrap ((k:Int)+1)=((k+1:Nat):Int):=by rw[bG (by omega)];omega
def XC{k:Nat}(h:k<=4611686018427387904):(IntKind.i64.wrap ((k:Int)-1)).toNat=k-1:=by rw[bG (by omega)];omega
def nT{k:Nat}(h:k<=4611686018427387904):IntKind.i64.wrap ((k:Int)-1)=(k:Int)-1:=bG (by omega)
def D9(e:TypeId×Nat×Nat)(d:Option Tmp)(j:Nat)(x:AV)(ρ:Env)(H:aH)(K:Env->aH->Prop):Prop:=match H j with
 | some r => rV H x fun news => (r.e = e.1 /\ r.sz = e.2.1 /\ cH e.2.1 news /\ (r.es.length + news.length) * e.2.2 <= 140737488355328) /\
       ∀k',H k'=none->K (upd ρ d (.os k')) (aI (aI H j none) k' (some ⟨e.1,e.2.1,r.es++news⟩))
 | none=>False
def ZI{P:Program}{d:Option Tmp}{t:TypeId}{j:Nat}{x:AV}{ρ:Env}{H:aH}{K:Env->aH->Prop}:Gv P d t (.os j) x ρ H K=bM (bT P t) (fun e=>D9 e d j x ρ H K):=by
 unfold Gv qK D9;cases bT P t with
 | none=>rfl
 | some e=>obtain⟨a,b,c⟩:=e;rfl
@[congr] theorem wappE_c {e d j x x' ρ H K} (h':x=x'):D9 e d j x ρ H K=D9 e d j x' ρ H K:=h'▸rfl
@[congr] theorem FCalls_c {P f a a' H R} (h':a=a'):bF P f a H R=bF P f a' H R:=h'▸rfl
def aX{e:TypeId×Nat×Nat}{d:Option Tmp}{j:Nat}{news:List (List AV)}{ρ:Env}{H:aH}{K:Env->aH->Prop}{r:Row}(A:H j=some r)
  (h1:r.e=e.1/\r.sz=e.2.1) (E:cH e.2.1 news) (F:(r.es.length+news.length)*e.2.2<=140737488355328)
  (h:∀j',H j'=none->K (upd ρ d (.os j')) (aI (aI H j none) j' (some ⟨e.1,e.2.1,r.es++news⟩))):D9 e d j (.sl news) ρ H K:=by
 unfold D9;simp only[A];exact⟨⟨h1.1,h1.2,E,F⟩,h⟩
def Cw{e:TypeId×Nat×Nat}{d:Option Tmp}{j i:Nat}{r':Row}{ρ:Env}{H:aH}{K:Env->aH->Prop}{r:Row}(E:H j=some r)(A:H i=some r')
  (h1:r.e=e.1/\r.sz=e.2.1) (F:cH e.2.1 r'.es) (I:(r.es.length+r'.es.length)*e.2.2<=140737488355328)
  (h:∀j',H j'=none->K (upd ρ d (.os j')) (aI (aI H j none) j' (some ⟨e.1,e.2.1,r.es++r'.es⟩))):D9 e d j (.os i) ρ H K:=by
 unfold D9;simp only[E,rV,A];exact⟨⟨h1.1,h1.2,F,I⟩,h⟩
def bN{P:Program}{C:kY}{PC:FuncId->List AV->aH->AV->Prop}{mt:Nat->Bool}{a b:Code}{x:AV}{K:Env->aH->Prop}{Q:Ex->Env->aH->Prop}{ρ:Env}{H:aH}(J:Env->aH->Prop)(h1:∀ρ H,J ρ H->K ρ H)
 (A:∀K:Env->aH->Prop,(∀ρ H,J ρ H->K ρ H)->xK x (awp P C PC mt a (Ex.seq K Q)) (awp P C PC mt b (Ex.seq K Q)) ρ H):xK x (awp P C PC mt a (Ex.seq K Q)) (awp P C PC mt b (Ex.seq K Q)) ρ H:=A K h1
def oN{x:AV}{A B:Env->aH->Prop}{ρ:Env}{H:aH}(J:Env->aH->Prop)(h1:J ρ H)(E:∀ρ H,J ρ H->xK x A B ρ H):xK x A B ρ H:=E ρ H h1
def FJ{P:Program}{C:kY}{PC:FuncId->List AV->aH->AV->Prop}{mt:Nat->Bool}{c:Code}{id:Nat}{Q:Ex->Env->aH->Prop}{ρ:Env}{H:aH}(J:Env->aH->Prop)(h1:∀ρ H,J ρ H->Q .normal ρ H)
  (A:∀Q':Ex->Env->aH->Prop,(∀ρ H,J ρ H->Q' (.exit id) ρ H)->(∀ρ H,Q .ret ρ H->Q' .ret ρ H)->ND (awp P C PC mt c) Q' ρ H):ND (awp P C PC mt c) (Ex.blk id Q) ρ H:=
 A (Ex.blk id Q) (fun ρ H h=>by rw[MO];exact h1 ρ H h) (fun ρ H h=>by rw[SN];exact h)
def lK{P:Program}{C:kY}{PC:FuncId->List AV->aH->AV->Prop}{mt:Nat->Bool}{a b:Code}{x:AV}{Q:Ex->Env->aH->Prop}{ρ:Env}{H:aH}(J:Env->aH->Prop)(h1:∀ρ H,J ρ H->Q .normal ρ H)
  (A:∀Q':Ex->Env->aH->Prop,(∀ρ H,J ρ H->Q' .normal ρ H)->(∀i ρ H,Q (.exit i) ρ H->Q' (.exit i) ρ H)->(∀ρ H,Q .ret ρ H->Q' .ret ρ H)->xK x (awp P C PC mt a Q') (awp P C PC mt b Q') ρ H):xK x (awp P C PC mt a Q) (awp P C PC mt b Q) ρ H:=
 A Q h1 (fun _ _ _ h=>h) (fun _ _ h=>h)
def Fs(P:Program)(t:TypeId)(l:Option Nat)(d:Option Tmp)(j i f:Nat)(cs:List AV)(ρ:Env)(H:aH)(K:Env->aH->Prop):Prop:=match H j with
 | some r=>(i<r.es.length/\cs.length=l.getD 1/\f+cs.length<=r.sz/\(l=none->∃i,P.info? t=some i/\i.size=1))/\K (upd ρ d .any) (aI H j (some { r with es:=r.es.set i (lV (r.es.getD i []) f cs) }))
 | none=>False
def D4(P:Program)(t:TypeId)(l:Option Nat)(d:Option Tmp)(j i f:Nat)(cs:List AV)(ρ:Env)(H:aH)(K:Env->aH->Prop):Prop:=
 Fs P t l d j i f cs ρ H K\/∃nl:List (Nat×TypeId×Nat),(∀x∈nl,cs[x.1]?=some (.v (.slice none 0 0))/\0<x.2.2)/\jC nl cs H fun cs H=>Fs P t l d j i f cs ρ H K
def YY{P:Program}{d:Option Tmp}{t:TypeId}{j i f:Nat}{cs:List AV}{ρ:Env}{H:aH}{K:Env->aH->Prop}:V0 P d t (.op j i f) cs ρ H K=bM (ldT P t) (fun l=>D4 P t l d j i f cs ρ H K):=by
 have A:∀cs H,yA P ⟨d,.move (.tmp 0),0,"",#[],none⟩ t (.op j i f) cs ρ H K=bM (ldT P t) (fun l=>Fs P t l d j i f cs ρ H K):=by intro cs H;unfold yA Fs;cases h1:H j <;> cases E:ldT P t <;> simp[bM,h1]
 unfold V0 sR D4;simp only[A];cases E:ldT P t <;> simp[bM]
def U6{P:Program}{t:TypeId}{m:Nat}{d:Option Tmp}{j i f:Nat}{cs:List AV}{ρ:Env}{H:aH}{K:Env->aH->Prop}{r:Row}(o:Nat)(e:TypeId)(sz:Nat)(J:cs[o]?=some (.v (.slice none 0 0))/\0<sz)(E:H j=some r)(h1:i<r.es.length/\cs.length=m/\f+cs.length<=r.sz)
  (h:∀k,H k=none->K (upd ρ d .any) (aI (aI H k (some ⟨e,sz,[]⟩)) j (some { r with es:=r.es.set i (lV (r.es.getD i []) f (cs.set o (.os k))) }))):D4 P t (some m) d j i f cs ρ H K:=by
 refine .inr ⟨[(o,e,sz)],?_,fun k I=>?_⟩
 ·intro x F;simp only[List.mem_cons,List.not_mem_nil,or_false]at F;subst F;exact J
 ·have A:j≠k:=fun e=>by rw[e,I]at E;cases E
  unfold jC Fs;simp only[show aI H k (some (⟨e,sz,[]⟩:Row)) j=some r by rw[aI];rw[if_neg A];exact E];exact⟨⟨h1.1,by simpa using h1.2.1,by simpa using h1.2.2,by simp⟩,h k I⟩
@[congr] theorem wputE_c {P t l d j i f cs cs' ρ H K} (h':cs=cs'):D4 P t l d j i f cs ρ H K=D4 P t l d j i f cs' ρ H K:=h'▸rfl
def aN{P:Program}{t:TypeId}{m:Nat}{d:Option Tmp}{j i f:Nat}{cs:List AV}{ρ:Env}{H:aH}{K:Env->aH->Prop}{r:Row}(A:H j=some r)(h1:i<r.es.length/\cs.length=m/\f+cs.length<=r.sz)
  (h:K (upd ρ d .any) (aI H j (some { r with es:=r.es.set i (lV (r.es.getD i []) f cs) }))):D4 P t (some m) d j i f cs ρ H K:=by
 refine .inl ?_;unfold Fs;simp only[A];exact⟨⟨h1.1,h1.2.1,h1.2.2,by simp⟩,h⟩
def bU{P:Program}{t:TypeId}{d:Option Tmp}{j i f:Nat}{cs:List AV}{ρ:Env}{H:aH}{K:Env->aH->Prop}{r:Row}(E:∃i,P.info? t=some i/\i.size=1)(A:H j=some r)(h1:i<r.es.length/\cs.length=1/\f+cs.length<=r.sz)
  (h:K (upd ρ d .any) (aI H j (some { r with es:=r.es.set i (lV (r.es.getD i []) f cs) }))):D4 P t none d j i f cs ρ H K:=by
 refine .inl ?_;unfold Fs;simp only[A];exact⟨⟨h1.1,h1.2.1,h1.2.2,fun _=>E⟩,h⟩
def ahA:Int.toNat 0=0:=rfl
def Yi{a b:Prop}:(a->b->a/\b)=True:=by simp;exact fun h1 A=>⟨h1,A⟩
attribute [go_sem ↓] ZI YY
attribute [go_sem] YY List.set_cons_zero List.set_cons_succ
attribute [go_sem] Int.reduceToNat ahA beq_true beq_false Bool.not_eq_true' Bool.and_eq_true Yi
attribute [go_sem] ZI HR Ej SQ Bool.or_true Bool.true_or Bool.false_or Bool.or_false
def cT{H:aH}{i j j':Nat}{r r':Row}(F:H i=some r)(E:j≠i)(A:H j'=none):aI (aI H j none) j' (some r') i=some r:=by
 have h1:i≠j':=fun e=>by subst e;rw[F]at A;simp at A
 rw[aD _ _ _ _ h1,aD _ _ _ _ (Ne.symm E),F]
def hY{H:aH}{i j:Nat}{r r':Row}(A:H i=some r)(E:H j=none):aI H j (some r') i=some r:=by
 have h1:i≠j:=fun e=>by subst e;rw[A]at E;simp at E
 rw[aD _ _ _ _ h1,A]
def aR{H:aH}{i j:Nat}{r:Row}(E:H i=some r)(A:H j=none):i≠j:=fun e=>by subst e;rw[E]at A;simp at A
def eQ{H:aH}{r:Row}{F:Nat->aH->Prop}(h:∀i G,H i=none->G i=some r->(∀{j a},H j=some a->j≠i/\G j=some a)->F i G):oA H r F:=
 fun i A=>h i _ A (aB _ _ _) fun E=>⟨aR E A,hY E A⟩
def bP{P:Program}{t:TypeId}{m:Nat}{d:Option Tmp}{j i f:Nat}{cs:List AV}{ρ:Env}{H:aH}{K:Env->aH->Prop}{r:Row}(A:H j=none)(h1:i<r.es.length/\cs.length=m/\f+cs.length<=r.sz)
  (h:∀G:aH,G j=some { r with es:=r.es.set i (lV (r.es.getD i []) f cs) }->(∀{k b},H k=some b->k≠j/\G k=some b)->K (upd ρ d .any) G):D4 P t (some m) d j i f cs ρ (aI H j (some r)) K:=
 aN (aB _ _ _) h1 (h _ (aB _ _ _) fun E=>⟨aR E A,(aD _ _ _ _ (aR E A)).trans (hY E A)⟩)
def upS{H G:aH}{i:Nat}{r:Row}(g:aI H i (some r)=G):G i=some r:=(congrFun g.symm i).trans (aB _ _ _)
def kpA{H G:aH}{i j:Nat}{a r:Option Row}(g:aI H i a=G)(n:j≠i)(R:H j=r):G j=r:=(congrFun g.symm j).trans ((aD _ _ _ _ n).trans R)
def kpB{H G:aH}{i j k:Nat}{a b r:Option Row}(g:aI (aI H i a) k b=G)(n:j≠k)(m:j≠i)(R:H j=r):G j=r:=(congrFun g.symm j).trans ((aD _ _ _ _ n).trans ((aD _ _ _ _ m).trans R))
def NZ{k n:Nat}{A B:Env->aH->Prop}{ρ:Env}{H:aH}(F:k<=n)(h1:k<n->A ρ H)(E:k=n->B ρ H):xK (.v (.bool (decide ((k:Int)<(n:Int))))) A B ρ H:=
 aA (fun h=>h1 (by simpa using h)) (fun h=>E (by simp at h;omega))
def msr{n k:Nat}(h:k<n):n-aT (int ((k+1:Nat):Int))<n-aT (int (k:Int)):=by simp only[aF];omega
def opt{α:Type}(b:Bool)(f:α):List α:=match b with|true=>[f]|false=>[]
def gX{α:Type}{b:Bool}{f:α}(h:b=true):opt b f=[f]:=by rw[h];rfl
def gY{α:Type}{b:Bool}{f:α}(h:b=false):opt b f=[]:=by rw[h];rfl
def bW{α:Type}(b:Bool)(f:α):(opt b f).length<=1:=by cases b <;> simp[opt]
def mD{α:Type}{e:TypeId}{sz:Nat}{enc:α->List AV}{H:aH}{k:Nat}{l l':List α}{cs:List (List AV)}(h:cs=l'.map enc):aI H k (some ⟨e,sz,l.map enc++cs⟩) k=some (⟨e,sz,(l++l').map enc⟩:Row):=by rw[aB,h,List.map_append]
def eF{e:TypeId}{sz:Nat}{enc:Fault->List AV}{H:aH}{k:Nat}{l l':List Fault}{cs:List (List AV)}(h:cs=l'.map enc):aI H k (some ⟨e,sz,l.map enc++cs⟩) k=some (⟨e,sz,(l++l').map enc⟩:Row):=mD h
def fR{e:TypeId}{sz:Nat}{enc:Int->List AV}{H:aH}{k:Nat}{l l':List Int}{cs:List (List AV)}(h:cs=l'.map enc):aI H k (some ⟨e,sz,l.map enc++cs⟩) k=some (⟨e,sz,(l++l').map enc⟩:Row):=mD h
abbrev lA(t:VType):Row:=⟨124,14,[aZ t]⟩
abbrev lJ(o:Order):Row:=⟨81,16,[aW o]⟩
abbrev tY(a:Arc):Row:=⟨122,6,[eA a]⟩
abbrev kC(l:List Int):Row:=⟨41,1,l.map aQ⟩
abbrev bK(l:List Fault):Row:=⟨139,2,l.map fO⟩
def pcb(mt:Nat->Bool){f:FuncId}{fn:Func}{c:Code}{A:List ResultVar}{args:List AV}{r:AV}(J:Tryz.prog.funcs[f]? = some fn)(I:fn.body=some c)(E:fn.results=Array.mk A)(h:awp Tryz.prog (bF Tryz.prog) (dD Tryz.prog) mt c (HR Tryz.prog A fun x H'=>Conv H' x r) (ES args) bS)(F:AT fn c args.length=true:=by kernel_rfl):PC Tryz.prog f args r:=PC.body mt mixed J I F (by rw[E];exact h)
def pcd{f:FuncId}{fn:Func}{c:Code}{A:List ResultVar}{args:List AV}{r:AV}(J:Tryz.prog.funcs[f]? = some fn)(I:fn.body=some c)(E:fn.results=Array.mk A)(h:awp Tryz.prog (bF Tryz.prog) (dD Tryz.prog) (fun _=>false) c (HR Tryz.prog A fun x H'=>Conv H' x r) (ES args) bS)(F:AT fn c args.length=true:=by kernel_rfl):PC Tryz.prog f args r:=PC.body (fun _=>false) mixed J I F (by rw[E];exact h)
def ncb(mt:Nat->Bool){f:FuncId}{fn:Func}{c:Code}{E:List ResultVar}{args:List AV}{row:Row}{A:Nat->AV}(M:Tryz.prog.funcs[f]? = some fn)(J:fn.body=some c)(F:fn.results=Array.mk E)(h:awp Tryz.prog (bF Tryz.prog) (dD Tryz.prog) mt c (HR Tryz.prog E fun x H'=>∃k,x=A k/\H' k=some row) (ES args) bS)(I:AT fn c args.length=true:=by kernel_rfl):NC Tryz.prog f args row A:=NC.body mt mixed M J I (by rw[F];exact h)
def kpR{H G:aH}{i j k:Nat}{a b r:Option Row}(g:aI (aI H i a) k b=G)(n:j≠k)(m:j≠i)(R:H j=r):G j=r:=(congrFun g.symm j).trans ((aD _ _ _ _ n).trans ((aD _ _ _ _ m).trans R))
def Xaa:∀{α:Type} {β:Type} {L:List α} (f:α->β),List.length (List.map f L)=List.length L:=@List.length_map
def Xab:∀(n:Nat),0<=n:=@Nat.zero_le
def Xac:∀{α:Type} {l:List α} {i:Nat} {a:α},l[i]?=some a->a∈l:=@List.mem_of_getElem?
def Xad:∀{α:Type} {a:α} {L:List α},List.length (a::L)=List.length L+1:=@List.length_cons
def Xae:∀{α:Type} {l:List α},List.take (List.length l) l=l:=@List.take_length
def Xaf:∀{α:Type} {L bs:List α},List.length (L++bs)=List.length L+List.length bs:=@List.length_append
def Xag:∀(n:Nat),n<=n:=@Nat.le_refl
def Xah:∀{x y:Bool},(x||y)=false↔x=false/\y=false:=@Bool.or_eq_false_iff
def Xai:∀{n m k:Nat},n<=m->m<=k->n<=k:=@Nat.le_trans
def Xaj:∀{α:Type} {p:α->Bool} {l:List α},List.all l p=true↔∀(x:α),x∈l->p x=true:=@List.all_eq_true
def Xak:∀{α:Type} (L:List α),L++[]=L:=@List.append_nil
def Xal:∀{α:Type} {i:Nat} {l:List α},List.length (List.take i l)=min i (List.length l):=@List.length_take
def Xam:∀(a b:Bool),((a&&b)=true)=(a=true/\b=true):=@Bool.and_eq_true
def Xan:∀{α:Type} {β:Type} {f:α->β} {l₁ l₂:List α},List.map f (l₁++l₂)=List.map f l₁++List.map f l₂:=@List.map_append
def Xao:∀{α:Type} {p:α->Bool} {l:List α},List.any l p=true↔∃x,x∈l/\p x=true:=@List.any_eq_true
def Xap:∀{a b:Bool},a=b↔(a=true↔b=true):=@Bool.eq_iff_iff
def Xaq:∀{α:Type} {i:Nat} {l:List α},List.length l<=i->List.take i l=l:=@List.take_of_length_le
def Xar:∀{α:Type} (L bs cs:List α),L++bs++cs=L++(bs++cs):=@List.append_assoc
def Xas:∀{n:Nat},List.length (List.range n)=n:=@List.length_range
def Xat:∀{α:Type} {a:α} {s t:List α},a∈s++t↔a∈s\/a∈t:=@List.mem_append
def Xau:∀{n:Nat},n>0->∀{i j:Nat},i<=j->n^i<=n^j:=@Nat.pow_le_pow_right
def Xav:∀{m n:Nat},m∈List.range n↔m<n:=@List.mem_range
def Xaw:∀{α:Type} {β:Type} {f:α->β} {a:α} {l:List α},List.map f (a::l)=f a::List.map f l:=@List.map_cons
def Xax:∀{α:Type} {p:α->Bool} {l:List α},List.any l p=false↔∀(x:α),x∈l->¬p x=true:=@List.any_eq_false
def Xay:∀{α:Type} {β:Type} {b:β} {f:α->β} {l:List α},b∈List.map f l↔∃a,a∈l/\f a=b:=@List.mem_map
def Xaz:(false=true)=False:=@Bool.false_eq_true
def Xba:∀{α:Type} [inst:BEq α] [LawfulBEq α] {a b:α},(a == b)=true↔a=b:=@beq_iff_eq
def Xbb:∀(n m:Nat),n<m\/n>=m:=@Nat.lt_or_ge
def Xbc:∀{a b:Nat},a<b->a%b=a:=@Nat.mod_eq_of_lt
def Xbd:∀(n:Nat),Int.toNat ↑n=n:=@Int.toNat_natCast
def Xbe:∀{α:Type} {L:List α} {i:Nat} {a:α},List.length (List.set L i a)=List.length L:=@List.length_set
def Xbf:∀(b:Bool),(true&&b)=b:=@Bool.true_and
def Xbg:∀{α:Type} {a b:α},a∈[b]↔a=b:=@List.mem_singleton
def Xbh:∀{α:Type} {a b:α},Option.getD (some a) b=a:=@Option.getD_some
def Xbi:∀{n m k:Nat},n<m->m<=k->n<k:=@Nat.lt_of_lt_of_le
def Xbj:∀{α:Type} {p q:List α},p++q=[]↔p=[]/\q=[]:=@List.append_eq_nil_iff
def Xbk:∀(b:Bool),((!b)=true)=(b=false):=@Bool.not_eq_true'
def Xbl:∀{α:Type} (L:List α),[]++L=L:=@List.nil_append
def Xbm:∀(a b:Bool),((a||b)=true)=(a=true\/b=true):=@Bool.or_eq_true
def Xbn:∀(b:Bool),((!b)=false)=(b=true):=@Bool.not_eq_false'
def Xbo:∀{α:Type} {l:List α},List.drop 0 l=l:=@List.drop_zero
def Xbp:∀{α:Type} {l:List α},List.drop (List.length l) l=[]:=@List.drop_length
def Xbq:∀{a:Int},a<=0->↑(Int.natAbs a)= -a:=@Int.ofNat_natAbs_of_nonpos
def Xbr:∀{a:Int},0<=a->↑(Int.natAbs a)=a:=@Int.natAbs_of_nonneg
def Xbs:∀(n:Nat),Int.natAbs ↑n=n:=@Int.natAbs_natCast
def Xbt:∀{n:Nat},List.range (Nat.succ n)=List.range n++[n]:=@List.range_succ
def Xbu:∀{α:Type} (p:α->Bool) (l:List α),List.length (List.filter p l)<=List.length l:=@List.length_filter_le
def Xbv:∀{α:Type} {n:Nat} {a:α},List.length (List.replicate n a)=n:=@List.length_replicate
def Xbw:∀(a:Int),a<=a:=@Int.le_refl
def Xbx:∀{x y n:Nat},x<2^n->y<2^n->x ||| y<2^n:=@Nat.or_lt_two_pow
def Xby:(!true)=false:=@Bool.not_true
def Xbz:∀{a b:Int},0<=a->Int.tdiv a b=a/b:=@Int.tdiv_eq_ediv_of_nonneg
def Xca:∀{a m n:Nat},1<a->m<n->a^m<a^n:=@Nat.pow_lt_pow_right
def Xcb:∀{a b:Int},0<=a->Int.tmod a b=a%b:=@Int.tmod_eq_emod_of_nonneg
def Xcc:∀(n:Nat),n=0\/n>0:=@Nat.eq_zero_or_pos
def aV(k:Nat)(h:k<=4611686018427387904:=by omega):IntKind.i64.wrap ((k:Int)+1)=((k+1:Nat):Int):=mX h
def aP{f:FuncId}{args:List AV}{r:AV}{H:aH}{K:AV->aH->Prop}(h:PC Tryz.prog f args r)(A:K r H):bF Tryz.prog f args H K:=h.use A
end Go.Proofs.YtgncgpcpbadfnaaGreatDoor
