import Derived.Test.YtkjdacijpeiphaaGreatDoorVp05
set_option linter.unusedSimpArgs false
set_option linter.unusedVariables false
set_option linter.defProp false
set_option maxRecDepth 100000
namespace Go.Proofs.YtkjdacijpeiphaaGreatDoor
open Go.Aw Go.Aw.D Go.Proofs Ty
abbrev int(n:Int):AV:=.v (.int .i64 n)
abbrev str(s:ByteArray):AV:=.v (.string s)
abbrev boo(b:Bool):AV:=.v (.bool b)
def aZ{α:Type}{l:List α}{k:Nat}{x:α}(h:l[k]?=some x):l.take (k+1)=l.take k++[x]:=by rw[List.take_add_one,h];rfl
def aO{α:Type}{l:List α}{k:Nat}(h:k<l.length):∃x,l[k]?=some x:=⟨l[k],List.getElem?_eq_getElem h⟩
def inB{k n:Nat}(h:k<n):0<=(k:Int)/\(k:Int)<(n:Int):=by omega
def lG{k:Nat}(h:k<=4611686018427387904):IntKind.i64.wrap ((k:Int)+1)=((k+1:Nat):Int):=by rw[bE (by omega)];omega
def acA{k:Nat}(h:k<=4611686018427387904):(IntKind.i64.wrap ((k:Int)-1)).toNat=k-1:=by rw[bE (by omega)];omega
def Aq{k:Nat}(h:k<=4611686018427387904):IntKind.i64.wrap ((k:Int)-1)=(k:Int)-1:=bE (by omega)
def CE(e:TypeId×Nat×Nat)(d:Option Tmp)(j:Nat)(x:AV)(ρ:Env)(H:aG)(K:Env->aG->Prop):Prop:=match H j with
 | some r => pM H x fun news => (r.e = e.1 /\ r.sz = e.2.1 /\ cA e.2.1 news /\ (r.es.length + news.length) * e.2.2 <= 140737488355328) /\
       ∀k',H k'=none->K (upd ρ d (.os k')) (aI (aI H j none) k' (some ⟨e.1,e.2.1,r.es++news⟩))
 | none=>False
def Vj{P:Program}{d:Option Tmp}{t:TypeId}{j:Nat}{x:AV}{ρ:Env}{H:aG}{K:Env->aG->Prop}:DZ P d t (.os j) x ρ H K=bD (bN P t) (fun e=>CE e d j x ρ H K):=by
 unfold DZ oC CE;cases bN P t with
 | none=>rfl
 | some e=>obtain⟨a,b,c⟩:=e;rfl
@[congr] theorem wappE_c {e d j x x' ρ H K} (h':x=x'):CE e d j x ρ H K=CE e d j x' ρ H K:=h'▸rfl
@[congr] theorem FCalls_c {P f a a' H R} (h':a=a'):aX P f a H R=aX P f a' H R:=h'▸rfl
def bT{e:TypeId×Nat×Nat}{d:Option Tmp}{j:Nat}{news:List (List AV)}{ρ:Env}{H:aG}{K:Env->aG->Prop}{r:Row}(A:H j=some r)
  (h1:r.e=e.1/\r.sz=e.2.1) (E:cA e.2.1 news) (F:(r.es.length+news.length)*e.2.2<=140737488355328)
  (h:∀j',H j'=none->K (upd ρ d (.os j')) (aI (aI H j none) j' (some ⟨e.1,e.2.1,r.es++news⟩))):CE e d j (.sl news) ρ H K:=by
 unfold CE;simp only[A];exact⟨⟨h1.1,h1.2,E,F⟩,h⟩
def XO{e:TypeId×Nat×Nat}{d:Option Tmp}{j i:Nat}{r':Row}{ρ:Env}{H:aG}{K:Env->aG->Prop}{r:Row}(A:H j=some r)(F:H i=some r')
  (h1:r.e=e.1/\r.sz=e.2.1) (E:cA e.2.1 r'.es) (I:(r.es.length+r'.es.length)*e.2.2<=140737488355328)
  (h:∀j',H j'=none->K (upd ρ d (.os j')) (aI (aI H j none) j' (some ⟨e.1,e.2.1,r.es++r'.es⟩))):CE e d j (.os i) ρ H K:=by
 unfold CE;simp only[A,pM,F];exact⟨⟨h1.1,h1.2,E,I⟩,h⟩
def gT{P:Program}{C:jI}{PC:FuncId->List AV->aG->AV->Prop}{mt:Nat->Bool}{a b:Code}{x:AV}{K:Env->aG->Prop}{Q:Ex->Env->aG->Prop}{ρ:Env}{H:aG}(J:Env->aG->Prop)(h1:∀ρ H,J ρ H->K ρ H)
 (A:∀K:Env->aG->Prop,(∀ρ H,J ρ H->K ρ H)->xY x (awp P C PC mt a (Ex.seq K Q)) (awp P C PC mt b (Ex.seq K Q)) ρ H):xY x (awp P C PC mt a (Ex.seq K Q)) (awp P C PC mt b (Ex.seq K Q)) ρ H:=A K h1
def MX{P:Program}{C:jI}{PC:FuncId->List AV->aG->AV->Prop}{mt:Nat->Bool}{c:Code}{id:Nat}{Q:Ex->Env->aG->Prop}{ρ:Env}{H:aG}(J:Env->aG->Prop)(h1:∀ρ H,J ρ H->Q .normal ρ H)
  (A:∀Q':Ex->Env->aG->Prop,(∀ρ H,J ρ H->Q' (.exit id) ρ H)->(∀ρ H,Q .ret ρ H->Q' .ret ρ H)->KY (awp P C PC mt c) Q' ρ H):KY (awp P C PC mt c) (Ex.blk id Q) ρ H:=
 A (Ex.blk id Q) (fun ρ H h=>by rw[J6];exact h1 ρ H h) (fun ρ H h=>by rw[PS];exact h)
def Cq{P:Program}{C:jI}{PC:FuncId->List AV->aG->AV->Prop}{mt:Nat->Bool}{a b:Code}{x:AV}{Q:Ex->Env->aG->Prop}{ρ:Env}{H:aG}(J:Env->aG->Prop)(h1:∀ρ H,J ρ H->Q .normal ρ H)
  (A:∀Q':Ex->Env->aG->Prop,(∀ρ H,J ρ H->Q' .normal ρ H)->(∀i ρ H,Q (.exit i) ρ H->Q' (.exit i) ρ H)->(∀ρ H,Q .ret ρ H->Q' .ret ρ H)->xY x (awp P C PC mt a Q') (awp P C PC mt b Q') ρ H):xY x (awp P C PC mt a Q) (awp P C PC mt b Q) ρ H:=
 A Q h1 (fun _ _ _ h=>h) (fun _ _ h=>h)
def Ey(P:Program)(t:TypeId)(l:Option Nat)(d:Option Tmp)(j i f:Nat)(cs:List AV)(ρ:Env)(H:aG)(K:Env->aG->Prop):Prop:=match H j with
 | some r=>(i<r.es.length/\cs.length=l.getD 1/\f+cs.length<=r.sz/\(l=none->∃i,P.info? t=some i/\i.size=1))/\K (upd ρ d .any) (aI H j (some { r with es:=r.es.set i (kT (r.es.getD i []) f cs) }))
 | none=>False
def Cc(P:Program)(t:TypeId)(l:Option Nat)(d:Option Tmp)(j i f:Nat)(cs:List AV)(ρ:Env)(H:aG)(K:Env->aG->Prop):Prop:=
 Ey P t l d j i f cs ρ H K\/∃nl:List (Nat×TypeId×Nat),(∀x∈nl,cs[x.1]?=some (.v (.slice none 0 0))/\0<x.2.2)/\gX nl cs H fun cs H=>Ey P t l d j i f cs ρ H K
def Vp{P:Program}{d:Option Tmp}{t:TypeId}{j i f:Nat}{cs:List AV}{ρ:Env}{H:aG}{K:Env->aG->Prop}:Sn P d t (.op j i f) cs ρ H K=bD (ldT P t) (fun l=>Cc P t l d j i f cs ρ H K):=by
 have E:∀cs H,vN P ⟨d,.move (.tmp 0),0,"",#[],none⟩ t (.op j i f) cs ρ H K=bD (ldT P t) (fun l=>Ey P t l d j i f cs ρ H K):=by intro cs H;unfold vN Ey;cases h1:H j <;> cases A:ldT P t <;> simp[bD,h1]
 unfold Sn qJ Cc;simp only[E];cases A:ldT P t <;> simp[bD]
def Ru{P:Program}{t:TypeId}{m:Nat}{d:Option Tmp}{j i f:Nat}{cs:List AV}{ρ:Env}{H:aG}{K:Env->aG->Prop}{r:Row}(o:Nat)(e:TypeId)(sz:Nat)(J:cs[o]?=some (.v (.slice none 0 0))/\0<sz)(A:H j=some r)(h1:i<r.es.length/\cs.length=m/\f+cs.length<=r.sz)
  (h:∀k,H k=none->K (upd ρ d .any) (aI (aI H k (some ⟨e,sz,[]⟩)) j (some { r with es:=r.es.set i (kT (r.es.getD i []) f (cs.set o (.os k))) }))):Cc P t (some m) d j i f cs ρ H K:=by
 refine .inr ⟨[(o,e,sz)],?_,fun k I=>?_⟩
 ·intro x F;simp only[List.mem_cons,List.not_mem_nil,or_false]at F;subst F;exact J
 ·have E:j≠k:=fun e=>by rw[e,I]at A;cases A
  unfold gX Ey;simp only[show aI H k (some (⟨e,sz,[]⟩:Row)) j=some r by rw[aI];rw[if_neg E];exact A];exact⟨⟨h1.1,by simpa using h1.2.1,by simpa using h1.2.2,by simp⟩,h k I⟩
@[congr] theorem wputE_c {P t l d j i f cs cs' ρ H K} (h':cs=cs'):Cc P t l d j i f cs ρ H K=Cc P t l d j i f cs' ρ H K:=h'▸rfl
def aN{P:Program}{t:TypeId}{m:Nat}{d:Option Tmp}{j i f:Nat}{cs:List AV}{ρ:Env}{H:aG}{K:Env->aG->Prop}{r:Row}(A:H j=some r)(h1:i<r.es.length/\cs.length=m/\f+cs.length<=r.sz)
  (h:K (upd ρ d .any) (aI H j (some { r with es:=r.es.set i (kT (r.es.getD i []) f cs) }))):Cc P t (some m) d j i f cs ρ H K:=by
 refine .inl ?_;unfold Ey;simp only[A];exact⟨⟨h1.1,h1.2.1,h1.2.2,by simp⟩,h⟩
def bO{P:Program}{t:TypeId}{d:Option Tmp}{j i f:Nat}{cs:List AV}{ρ:Env}{H:aG}{K:Env->aG->Prop}{r:Row}(E:∃i,P.info? t=some i/\i.size=1)(A:H j=some r)(h1:i<r.es.length/\cs.length=1/\f+cs.length<=r.sz)
  (h:K (upd ρ d .any) (aI H j (some { r with es:=r.es.set i (kT (r.es.getD i []) f cs) }))):Cc P t none d j i f cs ρ H K:=by
 refine .inl ?_;unfold Ey;simp only[A];exact⟨⟨h1.1,h1.2.1,h1.2.2,fun _=>E⟩,h⟩
def Zl:Int.toNat 0=0:=rfl
def Wb{a b:Prop}:(a->b->a/\b)=True:=by simp;exact fun h1 A=>⟨h1,A⟩
attribute [go_sem ↓] Vj Vp
attribute [go_sem] Vp List.set_cons_zero List.set_cons_succ
attribute [go_sem] Int.reduceToNat Zl beq_true beq_false Bool.not_eq_true' Bool.and_eq_true Wb
attribute [go_sem] Vj EC Cl Qf Bool.or_true Bool.true_or Bool.false_or Bool.or_false
def sR{H:aG}{i j j':Nat}{r r':Row}(F:H i=some r)(E:j≠i)(A:H j'=none):aI (aI H j none) j' (some r') i=some r:=by
 have h1:i≠j':=fun e=>by subst e;rw[F]at A;simp at A
 rw[aD _ _ _ _ h1,aD _ _ _ _ (Ne.symm E),F]
def nA{H:aG}{i j:Nat}{r r':Row}(E:H i=some r)(A:H j=none):aI H j (some r') i=some r:=by
 have h1:i≠j:=fun e=>by subst e;rw[E]at A;simp at A
 rw[aD _ _ _ _ h1,E]
def bC{H:aG}{i j:Nat}{r:Row}(E:H i=some r)(A:H j=none):i≠j:=fun e=>by subst e;rw[E]at A;simp at A
def dV{H:aG}{r:Row}{F:Nat->aG->Prop}(h:∀i G,H i=none->G i=some r->(∀{j a},H j=some a->j≠i/\G j=some a)->F i G):mB H r F:=
 fun i A=>h i _ A (aB _ _ _) fun E=>⟨bC E A,nA E A⟩
def bH{P:Program}{t:TypeId}{m:Nat}{d:Option Tmp}{j i f:Nat}{cs:List AV}{ρ:Env}{H:aG}{K:Env->aG->Prop}{r:Row}(A:H j=none)(h1:i<r.es.length/\cs.length=m/\f+cs.length<=r.sz)
  (h:∀G:aG,G j=some { r with es:=r.es.set i (kT (r.es.getD i []) f cs) }->(∀{k b},H k=some b->k≠j/\G k=some b)->K (upd ρ d .any) G):Cc P t (some m) d j i f cs ρ (aI H j (some r)) K:=
 aN (aB _ _ _) h1 (h _ (aB _ _ _) fun E=>⟨bC E A,(aD _ _ _ _ (bC E A)).trans (nA E A)⟩)
def upS{H G:aG}{i:Nat}{r:Row}(g:aI H i (some r)=G):G i=some r:=(congrFun g.symm i).trans (aB _ _ _)
def kpA{H G:aG}{i j:Nat}{a r:Option Row}(g:aI H i a=G)(n:j≠i)(R:H j=r):G j=r:=(congrFun g.symm j).trans ((aD _ _ _ _ n).trans R)
def kpB{H G:aG}{i j k:Nat}{a b r:Option Row}(g:aI (aI H i a) k b=G)(n:j≠k)(m:j≠i)(R:H j=r):G j=r:=(congrFun g.symm j).trans ((aD _ _ _ _ n).trans ((aD _ _ _ _ m).trans R))
def LI{k n:Nat}{A B:Env->aG->Prop}{ρ:Env}{H:aG}(F:k<=n)(h1:k<n->A ρ H)(E:k=n->B ρ H):xY (.v (.bool (decide ((k:Int)<(n:Int))))) A B ρ H:=
 aA (fun h=>h1 (by simpa using h)) (fun h=>E (by simp at h;omega))
def msr{n k:Nat}(h:k<n):n-aU (int ((k+1:Nat):Int))<n-aU (int (k:Int)):=by simp only[aF];omega
def opt{α:Type}(b:Bool)(f:α):List α:=match b with|true=>[f]|false=>[]
def lV{α:Type}{e:TypeId}{sz:Nat}{enc:α->List AV}{H:aG}{k:Nat}{l l':List α}{cs:List (List AV)}(h:cs=l'.map enc):aI H k (some ⟨e,sz,l.map enc++cs⟩) k=some (⟨e,sz,(l++l').map enc⟩:Row):=by rw[aB,h,List.map_append]
def Wx{e:TypeId}{sz:Nat}{enc:Int->List AV}{H:aG}{k:Nat}{l l':List Int}{cs:List (List AV)}(h:cs=l'.map enc):aI H k (some ⟨e,sz,l.map enc++cs⟩) k=some (⟨e,sz,(l++l').map enc⟩:Row):=lV h
abbrev Dl(t:VType):Row:=⟨70,14,[bM t]⟩
abbrev LU(o:Order):Row:=⟨58,16,[bF o]⟩
def pcb(mt:Nat->Bool){f:FuncId}{fn:Func}{c:Code}{A:List ResultVar}{args:List AV}{r:AV}(I:Tryz.prog.funcs[f]? = some fn)(F:fn.body=some c)(J:fn.results=Array.mk A)(h:awp Tryz.prog (aX Tryz.prog) (cQ Tryz.prog) mt c (EC Tryz.prog A fun x H'=>Conv H' x r) (Bx args) bG)(E:vL fn c args.length=true:=by kernel_rfl):PC Tryz.prog f args r:=PC.body mt mixed I F E (by rw[J];exact h)
def pcd{f:FuncId}{fn:Func}{c:Code}{A:List ResultVar}{args:List AV}{r:AV}(I:Tryz.prog.funcs[f]? = some fn)(F:fn.body=some c)(J:fn.results=Array.mk A)(h:awp Tryz.prog (aX Tryz.prog) (cQ Tryz.prog) (fun _=>false) c (EC Tryz.prog A fun x H'=>Conv H' x r) (Bx args) bG)(E:vL fn c args.length=true:=by kernel_rfl):PC Tryz.prog f args r:=PC.body (fun _=>false) mixed I F E (by rw[J];exact h)
def ncb(mt:Nat->Bool){f:FuncId}{fn:Func}{c:Code}{E:List ResultVar}{args:List AV}{row:Row}{A:Nat->AV}(J:Tryz.prog.funcs[f]? = some fn)(I:fn.body=some c)(M:fn.results=Array.mk E)(h:awp Tryz.prog (aX Tryz.prog) (cQ Tryz.prog) mt c (EC Tryz.prog E fun x H'=>∃k,x=A k/\H' k=some row) (Bx args) bG)(F:vL fn c args.length=true:=by kernel_rfl):NC Tryz.prog f args row A:=NC.body mt mixed J I F (by rw[M];exact h)
def kpR{H G:aG}{i j k:Nat}{a b r:Option Row}(g:aI (aI H i a) k b=G)(n:j≠k)(m:j≠i)(R:H j=r):G j=r:=(congrFun g.symm j).trans ((aD _ _ _ _ n).trans ((aD _ _ _ _ m).trans R))
def Xaa:∀{α:Type} {β:Type} {L:List α} (f:α->β),List.length (List.map f L)=List.length L:=@List.length_map
def Xab:∀(n:Nat),0<=n:=@Nat.zero_le
def Xac:∀{α:Type} {l:List α} {i:Nat} {a:α},l[i]?=some a->a∈l:=@List.mem_of_getElem?
def Xad:∀{α:Type} {l:List α},List.take (List.length l) l=l:=@List.take_length
def Xae:∀{α:Type} {a:α} {L:List α},List.length (a::L)=List.length L+1:=@List.length_cons
def Xaf:∀(n:Nat),n<=n:=@Nat.le_refl
def Xag:∀{n m k:Nat},n<=m->m<=k->n<=k:=@Nat.le_trans
def Xah:∀{α:Type} {i:Nat} {l:List α},List.length (List.take i l)=min i (List.length l):=@List.length_take
def Xai:∀{α:Type} {L bs:List α},List.length (L++bs)=List.length L+List.length bs:=@List.length_append
def Xaj:∀{x y:Bool},(x||y)=false↔x=false/\y=false:=@Bool.or_eq_false_iff
def Xak:∀{α:Type} {β:Type} {f:α->β} {l₁ l₂:List α},List.map f (l₁++l₂)=List.map f l₁++List.map f l₂:=@List.map_append
def Xal:∀{α:Type} {p:α->Bool} {l:List α},List.all l p=true↔∀(x:α),x∈l->p x=true:=@List.all_eq_true
def Xam:∀{α:Type} {i:Nat} {l:List α},List.length l<=i->List.take i l=l:=@List.take_of_length_le
def Xan:∀{α:Type} {p:α->Bool} {l:List α},List.any l p=true↔∃x,x∈l/\p x=true:=@List.any_eq_true
def Xao:∀{a b:Bool},a=b↔(a=true↔b=true):=@Bool.eq_iff_iff
def Xap:∀(a b:Bool),((a&&b)=true)=(a=true/\b=true):=@Bool.and_eq_true
def Xaq:∀{n:Nat},n>0->∀{i j:Nat},i<=j->n^i<=n^j:=@Nat.pow_le_pow_right
def Xar:(false=true)=False:=@Bool.false_eq_true
def Xas:∀{α:Type} {a:α} {s t:List α},a∈s++t↔a∈s\/a∈t:=@List.mem_append
def Xat:∀{α:Type} {β:Type} {f:α->β} {a:α} {l:List α},List.map f (a::l)=f a::List.map f l:=@List.map_cons
def Xau:∀{α:Type} {β:Type} {b:β} {f:α->β} {l:List α},b∈List.map f l↔∃a,a∈l/\f a=b:=@List.mem_map
def Xav:∀{a b:Nat},a<b->a%b=a:=@Nat.mod_eq_of_lt
def Xaw:∀{α:Type} {L:List α} {i:Nat} {a:α},List.length (List.set L i a)=List.length L:=@List.length_set
def Xax:∀{α:Type} {a b:α},a∈[b]↔a=b:=@List.mem_singleton
def Xay:∀(n m:Nat),n<m\/n>=m:=@Nat.lt_or_ge
def Xaz:∀(n:Nat),Int.toNat ↑n=n:=@Int.toNat_natCast
def Xba:∀{m n:Nat},m∈List.range n↔m<n:=@List.mem_range
def Xbb:∀{α:Type} {p:α->Bool} {l:List α},List.any l p=false↔∀(x:α),x∈l->¬p x=true:=@List.any_eq_false
def Xbc:∀{α:Type} {a b:α},Option.getD (some a) b=a:=@Option.getD_some
def Xbd:∀{α:Type} (L bs cs:List α),L++bs++cs=L++(bs++cs):=@List.append_assoc
def Xbe:∀(b:Bool),(true&&b)=b:=@Bool.true_and
def Xbf:∀{n m k:Nat},n<m->m<=k->n<k:=@Nat.lt_of_lt_of_le
def Xbg:∀{α:Type} {l:List α},List.drop 0 l=l:=@List.drop_zero
def Xbh:∀(b:Bool),((!b)=true)=(b=false):=@Bool.not_eq_true'
def Xbi:∀{α:Type} {l:List α},List.drop (List.length l) l=[]:=@List.drop_length
def Xbj:∀{a:Int},a<=0->↑(Int.natAbs a)= -a:=@Int.ofNat_natAbs_of_nonpos
def Xbk:∀{a:Int},0<=a->↑(Int.natAbs a)=a:=@Int.natAbs_of_nonneg
def Xbl:∀(n:Nat),Int.natAbs ↑n=n:=@Int.natAbs_natCast
def Xbm:∀{α:Type} (p:α->Bool) (l:List α),List.length (List.filter p l)<=List.length l:=@List.length_filter_le
def Xbn:∀{α:Type} (L:List α),L++[]=L:=@List.append_nil
def Xbo:∀{α:Type} (L:List α),[]++L=L:=@List.nil_append
def Xbp:∀{α:Type} {n:Nat} {a:α},List.length (List.replicate n a)=n:=@List.length_replicate
def Xbq:∀{n:Nat},List.length (List.range n)=n:=@List.length_range
def Xbr:(!true)=false:=@Bool.not_true
def Xbs:∀(a:Int),a<=a:=@Int.le_refl
def Xbt:∀{a m n:Nat},1<a->m<n->a^m<a^n:=@Nat.pow_lt_pow_right
def Xbu:∀{a b:Int},0<=a->Int.tdiv a b=a/b:=@Int.tdiv_eq_ediv_of_nonneg
def Xbv:∀(n:Nat),n=0\/n>0:=@Nat.eq_zero_or_pos
def aT(k:Nat)(h:k<=4611686018427387904:=by omega):IntKind.i64.wrap ((k:Int)+1)=((k+1:Nat):Int):=lG h
def aP{f:FuncId}{args:List AV}{r:AV}{H:aG}{K:AV->aG->Prop}(h:PC Tryz.prog f args r)(A:K r H):aX Tryz.prog f args H K:=h.use A
end Go.Proofs.YtkjdacijpeiphaaGreatDoor
