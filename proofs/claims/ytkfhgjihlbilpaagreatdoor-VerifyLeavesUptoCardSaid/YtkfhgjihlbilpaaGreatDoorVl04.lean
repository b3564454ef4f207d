import Derived.Test.YtkfhgjihlbilpaaGreatDoorVl03
set_option linter.unusedSimpArgs false
set_option linter.unusedVariables false
set_option linter.defProp false
set_option maxRecDepth 100000
namespace Go.Proofs.YtkfhgjihlbilpaaGreatDoor
open Go.Aw Go.Aw.D Go.Proofs Ty
abbrev int(n:Int):AV:=.v (.int .i64 n)
abbrev str(s:ByteArray):AV:=.v (.string s)
abbrev boo(b:Bool):AV:=.v (.bool b)
theorem aY{α:Type}{l:List α}{k:Nat}{x:α}(h:l[k]?=some x):l.take (k+1)=l.take k++[x]:=by grind[List.take_add_one]
def aK{α:Type}{l:List α}{k:Nat}(h:k<l.length):∃x,l[k]?=some x:=⟨l[k],List.getElem?_eq_getElem h⟩
def inB{k n:Nat}(h:k<n):0<=(k:Int)/\(k:Int)<(n:Int):=by omega
theorem mT{k:Nat}(h:k<=4611686018427387904):IntKind.i64.wrap ((k:Int)+1)=((k+1:Nat):Int):=by grind[aW]
def amW{k:Nat}(h:k<=4611686018427387904):(IntKind.i64.wrap ((k:Int)-1)).toNat=k-1:=by grind[aW]
theorem zE{k:Nat}(h:k<=4611686018427387904):IntKind.i64.wrap ((k:Int)-1)=(k:Int)-1:=aW (by omega)
def IN(e:TypeId×Nat×Nat)(d:Option Tmp)(j:Nat)(x:AV)(ρ:Env)(H:aM)(K:Env->aM->Prop):Prop:=match H j with
 | some r => zV H x fun news => (r.e = e.1 /\ r.sz = e.2.1 /\ cT e.2.1 news /\ (r.es.length + news.length) * e.2.2 <= 140737488355328) /\
       ∀k',H k'=none->K (upd ρ d (.os k')) (aI (aI H j none) k' (some ⟨e.1,e.2.1,r.es++news⟩))
 | none=>False
def asE{P:Program}{d:Option Tmp}{t:TypeId}{j:Nat}{x:AV}{ρ:Env}{H:aM}{K:Env->aM->Prop}:Kp P d t (.os j) x ρ H K=cA (cK P t) (fun e=>IN e d j x ρ H K):=by
 unfold Kp vU IN;cases cK P t with
 | none=>rfl
 | some e=>rfl
@[congr] theorem wappE_c {e d j x x' ρ H K} (h':x=x'):IN e d j x ρ H K=IN e d j x' ρ H K:=h'▸rfl
@[congr] theorem FCalls_c {P f a a' H R} (h':a=a'):bQ P f a H R=bQ P f a' H R:=h'▸rfl
def aU{e:TypeId×Nat×Nat}{d:Option Tmp}{j:Nat}{news:List (List AV)}{ρ:Env}{H:aM}{K:Env->aM->Prop}{r:Row}(F:H j=some r)
  (h1:r.e=e.1/\r.sz=e.2.1) (E:cT e.2.1 news) (A:(r.es.length+news.length)*e.2.2<=140737488355328)
  (h:∀j',H j'=none->K (upd ρ d (.os j')) (aI (aI H j none) j' (some ⟨e.1,e.2.1,r.es++news⟩))):IN e d j (.sl news) ρ H K:=by
 unfold IN;simp only[F];exact⟨⟨h1.1,h1.2,E,A⟩,h⟩
def Fy{e:TypeId×Nat×Nat}{d:Option Tmp}{j i:Nat}{r':Row}{ρ:Env}{H:aM}{K:Env->aM->Prop}{r:Row}(I:H j=some r)(E:H i=some r')
 (h1:r.e=e.1/\r.sz=e.2.1) (F:cT e.2.1 r'.es) (A:(r.es.length+r'.es.length)*e.2.2<=140737488355328)
 (h:∀j',H j'=none->K (upd ρ d (.os j')) (aI (aI H j none) j' (some ⟨e.1,e.2.1,r.es++r'.es⟩))):IN e d j (.os i) ρ H K:=by grind[IN,zV]
def bO{P:Program}{C:nP}{PC:FuncId->List AV->aM->AV->Prop}{mt:Nat->Bool}{a b:Code}{x:AV}{K:Env->aM->Prop}{Q:Ex->Env->aM->Prop}{ρ:Env}{H:aM}(J:Env->aM->Prop)(h1:∀ρ H,J ρ H->K ρ H)
 (A:∀K:Env->aM->Prop,(∀ρ H,J ρ H->K ρ H)->B5 x (awp P C PC mt a (Ex.seq K Q)) (awp P C PC mt b (Ex.seq K Q)) ρ H):B5 x (awp P C PC mt a (Ex.seq K Q)) (awp P C PC mt b (Ex.seq K Q)) ρ H:=A K h1
def tP{x:AV}{A B:Env->aM->Prop}{ρ:Env}{H:aM}(J:Env->aM->Prop)(h1:J ρ H)(E:∀ρ H,J ρ H->B5 x A B ρ H):B5 x A B ρ H:=E ρ H h1
def J2{P:Program}{C:nP}{PC:FuncId->List AV->aM->AV->Prop}{mt:Nat->Bool}{c:Code}{id:Nat}{Q:Ex->Env->aM->Prop}{ρ:Env}{H:aM}(J:Env->aM->Prop)(h1:∀ρ H,J ρ H->Q .normal ρ H)
  (A:∀Q':Ex->Env->aM->Prop,(∀ρ H,J ρ H->Q' (.exit id) ρ H)->(∀ρ H,Q .ret ρ H->Q' .ret ρ H)->SK (awp P C PC mt c) Q' ρ H):SK (awp P C PC mt c) (Ex.blk id Q) ρ H:=
 A (Ex.blk id Q) (fun ρ H h=>by grind[SO]) (fun ρ H h=>by grind[ZA])
def iO{P:Program}{C:nP}{PC:FuncId->List AV->aM->AV->Prop}{mt:Nat->Bool}{a b:Code}{x:AV}{Q:Ex->Env->aM->Prop}{ρ:Env}{H:aM}(J:Env->aM->Prop)(h1:∀ρ H,J ρ H->Q .normal ρ H)
  (A:∀Q':Ex->Env->aM->Prop,(∀ρ H,J ρ H->Q' .normal ρ H)->(∀i ρ H,Q (.exit i) ρ H->Q' (.exit i) ρ H)->(∀ρ H,Q .ret ρ H->Q' .ret ρ H)->B5 x (awp P C PC mt a Q') (awp P C PC mt b Q') ρ H):B5 x (awp P C PC mt a Q) (awp P C PC mt b Q) ρ H:=
 A Q h1 (fun _ _ _ h=>h) (fun _ _ h=>h)
def KP(P:Program)(t:TypeId)(l:Option Nat)(d:Option Tmp)(j i f:Nat)(cs:List AV)(ρ:Env)(H:aM)(K:Env->aM->Prop):Prop:=match H j with
 | some r=>(i<r.es.length/\cs.length=l.getD 1/\f+cs.length<=r.sz/\(l=none->∃i,P.info? t=some i/\i.size=1))/\K (upd ρ d .any) (aI H j (some { r with es:=r.es.set i (qF (r.es.getD i []) f cs) }))
 | none=>False
def IR(P:Program)(t:TypeId)(l:Option Nat)(d:Option Tmp)(j i f:Nat)(cs:List AV)(ρ:Env)(H:aM)(K:Env->aM->Prop):Prop:=
 KP P t l d j i f cs ρ H K\/∃nl:List (Nat×TypeId×Nat),(∀x∈nl,cs[x.1]?=some (.v (.slice none 0 0))/\0<x.2.2)/\mD nl cs H fun cs H=>KP P t l d j i f cs ρ H K
def ajB{P:Program}{d:Option Tmp}{t:TypeId}{j i f:Nat}{cs:List AV}{ρ:Env}{H:aM}{K:Env->aM->Prop}:adH P d t (.op j i f) cs ρ H K=cA (ldT P t) (fun l=>IR P t l d j i f cs ρ H K):=by
 have A:∀cs H,Ds P ⟨d,.move (.tmp 0),0,"",#[],none⟩ t (.op j i f) cs ρ H K=cA (ldT P t) (fun l=>KP P t l d j i f cs ρ H K):=by grind[Ds,KP,ldT,cA]
 unfold adH yL IR;simp only[A];cases E:ldT P t <;> simp[cA]
def Od{P:Program}{t:TypeId}{m:Nat}{d:Option Tmp}{j i f:Nat}{cs:List AV}{ρ:Env}{H:aM}{K:Env->aM->Prop}{r:Row}(o:Nat)(e:TypeId)(sz:Nat)(E:cs[o]?=some (.v (.slice none 0 0))/\0<sz)(F:H j=some r)(h1:i<r.es.length/\cs.length=m/\f+cs.length<=r.sz)
  (h:∀k,H k=none->K (upd ρ d .any) (aI (aI H k (some ⟨e,sz,[]⟩)) j (some { r with es:=r.es.set i (qF (r.es.getD i []) f (cs.set o (.os k))) }))):IR P t (some m) d j i f cs ρ H K:=by
 refine .inr ⟨[(o,e,sz)],?_,fun k I=>?_⟩
 ·grind
 ·have A:j≠k:=fun e=>by grind
  unfold mD KP;simp only[show aI H k (some (⟨e,sz,[]⟩:Row)) j=some r by simp_all[aI]]
  grind
@[congr] theorem wputE_c {P t l d j i f cs cs' ρ H K} (h':cs=cs'):IR P t l d j i f cs ρ H K=IR P t l d j i f cs' ρ H K:=h'▸rfl
def aG{P:Program}{t:TypeId}{m:Nat}{d:Option Tmp}{j i f:Nat}{cs:List AV}{ρ:Env}{H:aM}{K:Env->aM->Prop}{r:Row}(A:H j=some r)(h1:i<r.es.length/\cs.length=m/\f+cs.length<=r.sz)
  (h:K (upd ρ d .any) (aI H j (some { r with es:=r.es.set i (qF (r.es.getD i []) f cs) }))):IR P t (some m) d j i f cs ρ H K:=by
 refine .inl ?_
 grind[KP]
def bP{P:Program}{t:TypeId}{d:Option Tmp}{j i f:Nat}{cs:List AV}{ρ:Env}{H:aM}{K:Env->aM->Prop}{r:Row}(A:∃i,P.info? t=some i/\i.size=1)(E:H j=some r)(h1:i<r.es.length/\cs.length=1/\f+cs.length<=r.sz)
  (h:K (upd ρ d .any) (aI H j (some { r with es:=r.es.set i (qF (r.es.getD i []) f cs) }))):IR P t none d j i f cs ρ H K:=by
 refine .inl ?_
 grind[KP]
def aA0:Int.toNat 0=0:=rfl
def aoY{a b:Prop}:(a->b->a/\b)=True:=by grind
attribute [go_sem ↓] asE ajB
attribute [go_sem] ajB List.set_cons_zero List.set_cons_succ
attribute [go_sem] Int.reduceToNat aA0 beq_true beq_false Bool.not_eq_true' Bool.and_eq_true aoY
attribute [go_sem] asE MH I6 Z8 Bool.or_true Bool.true_or Bool.false_or Bool.or_false
theorem cM{H:aM}{i j j':Nat}{r r':Row}(F:H i=some r)(A:j≠i)(E:H j'=none):aI (aI H j none) j' (some r') i=some r:=by
 have h1:i≠j':=fun e=>by grind
 simp_all[aF,Ne.symm]
def fA{H:aM}{i j:Nat}{r r':Row}(A:H i=some r)(E:H j=none):aI H j (some r') i=some r:=by grind[aF]
def aV{H:aM}{i j:Nat}{r:Row}(A:H i=some r)(E:H j=none):i≠j:=fun e=>by grind
def eJ{H:aM}{r:Row}{F:Nat->aM->Prop}(h:∀i G,H i=none->G i=some r->(∀{j a},H j=some a->j≠i/\G j=some a)->F i G):sO H r F:=
 fun i A=>h i _ A (aB _ _ _) fun E=>⟨aV E A,fA E A⟩
def bW{P:Program}{t:TypeId}{m:Nat}{d:Option Tmp}{j i f:Nat}{cs:List AV}{ρ:Env}{H:aM}{K:Env->aM->Prop}{r:Row}(E:H j=none)(h1:i<r.es.length/\cs.length=m/\f+cs.length<=r.sz)
  (h:∀G:aM,G j=some { r with es:=r.es.set i (qF (r.es.getD i []) f cs) }->(∀{k b},H k=some b->k≠j/\G k=some b)->K (upd ρ d .any) G):IR P t (some m) d j i f cs ρ (aI H j (some r)) K:=
 aG (aB _ _ _) h1 (h _ (aB _ _ _) fun A=>⟨aV A E,(aF _ _ _ _ (aV A E)).trans (fA A E)⟩)
def upS{H G:aM}{i:Nat}{r:Row}(g:aI H i (some r)=G):G i=some r:=(congrFun g.symm i).trans (aB _ _ _)
def kpA{H G:aM}{i j:Nat}{a r:Option Row}(g:aI H i a=G)(n:j≠i)(R:H j=r):G j=r:=(congrFun g.symm j).trans ((aF _ _ _ _ n).trans R)
def kpB{H G:aM}{i j k:Nat}{a b r:Option Row}(g:aI (aI H i a) k b=G)(n:j≠k)(m:j≠i)(R:H j=r):G j=r:=(congrFun g.symm j).trans ((aF _ _ _ _ n).trans ((aF _ _ _ _ m).trans R))
def dC{P:Program}{C:nP}{PC:FuncId->List AV->aM->AV->Prop}{mt:Nat->Bool}{l:List Oper}{K:Env->aM->Prop}{m:Nat}{ρ:Env}{H:aM}(h:AA P C PC mt true l.toArray K l ρ H)(E:(m == l.length)=true:=by rfl)
 (A:Region.lexB .any l.toArray=true:=by kernel_rfl):wS P C PC mt l.toArray K m ρ H:=jD E A h
def jI{k n:Nat}{A B:Env->aM->Prop}{ρ:Env}{H:aM}(F:k<=n)(h1:k<n->A ρ H)(E:k=n->B ρ H):B5 (.v (.bool (decide ((k:Int)<(n:Int))))) A B ρ H:=
 aA (fun h=>h1 (by grind)) (fun h=>E (by grind))
def msr{n k:Nat}(h:k<n):n-aT (int ((k+1:Nat):Int))<n-aT (int (k:Int)):=by grind[aJ]
def opt{α:Type}(b:Bool)(f:α):List α:=match b with|true=>[f]|false=>[]
def kK{α:Type}{b:Bool}{f:α}(h:b=true):opt b f=[f]:=by rw[h];rfl
theorem kJ{α:Type}{b:Bool}{f:α}(h:b=false):opt b f=[]:=by rw[h];rfl
theorem cU{α:Type}(b:Bool)(f:α):(opt b f).length<=1:=by cases b <;> simp[opt]
theorem eK{α:Type}{e:TypeId}{sz:Nat}{enc:α->List AV}{H:aM}{k:Nat}{l l':List α}{cs:List (List AV)}(h:cs=l'.map enc):aI H k (some ⟨e,sz,l.map enc++cs⟩) k=some (⟨e,sz,(l++l').map enc⟩:Row):=by rw[aB,h,List.map_append]
theorem gN{e:TypeId}{sz:Nat}{enc:Fault->List AV}{H:aM}{k:Nat}{l l':List Fault}{cs:List (List AV)}(h:cs=l'.map enc):aI H k (some ⟨e,sz,l.map enc++cs⟩) k=some (⟨e,sz,(l++l').map enc⟩:Row):=eK h
def iW{e:TypeId}{sz:Nat}{enc:Int->List AV}{H:aM}{k:Nat}{l l':List Int}{cs:List (List AV)}(h:cs=l'.map enc):aI H k (some ⟨e,sz,l.map enc++cs⟩) k=some (⟨e,sz,(l++l').map enc⟩:Row):=eK h
abbrev lJ(t:VType):Row:=⟨95,14,[bI t]⟩
abbrev oO(o:Order):Row:=⟨60,16,[bE o]⟩
abbrev Ad(a:Arc):Row:=⟨93,6,[fL a]⟩
abbrev nA(l:List Int):Row:=⟨41,1,l.map aP⟩
abbrev bV(l:List Fault):Row:=⟨141,2,l.map iV⟩
def pcb(mt:Nat->Bool){f:FuncId}{fn:Func}{c:Code}{A:List ResultVar}{args:List AV}{r:AV}(E:Tryz.prog.funcs[f]? = some fn)(J:fn.body=some c)(F:fn.results=Array.mk A)(h:awp Tryz.prog (bQ Tryz.prog) (eN Tryz.prog) mt c (MH Tryz.prog A fun x H'=>Conv H' x r) (Ho args) bN)(I:El fn c args.length=true:=by kernel_rfl):PC Tryz.prog f args r:=PC.body mt mixed E J I (by rw[F];exact h)
def pcd{f:FuncId}{fn:Func}{c:Code}{A:List ResultVar}{args:List AV}{r:AV}(E:Tryz.prog.funcs[f]? = some fn)(J:fn.body=some c)(F:fn.results=Array.mk A)(h:awp Tryz.prog (bQ Tryz.prog) (eN Tryz.prog) (fun _=>false) c (MH Tryz.prog A fun x H'=>Conv H' x r) (Ho args) bN)(I:El fn c args.length=true:=by kernel_rfl):PC Tryz.prog f args r:=PC.body (fun _=>false) mixed E J I (by rw[F];exact h)
def ncb(mt:Nat->Bool){f:FuncId}{fn:Func}{c:Code}{A:List ResultVar}{args:List AV}{row:Row}{E:Nat->AV}(F:Tryz.prog.funcs[f]? = some fn)(O:fn.body=some c)(I:fn.results=Array.mk A)(h:awp Tryz.prog (bQ Tryz.prog) (eN Tryz.prog) mt c (MH Tryz.prog A fun x H'=>∃k,x=E k/\H' k=some row) (Ho args) bN)(J:El fn c args.length=true:=by kernel_rfl):NC Tryz.prog f args row E:=NC.body mt mixed F O J (by rw[I];exact h)
def kpR{H G:aM}{i j k:Nat}{a b r:Option Row}(g:aI (aI H i a) k b=G)(n:j≠k)(m:j≠i)(R:H j=r):G j=r:=(congrFun g.symm j).trans ((aF _ _ _ _ n).trans ((aF _ _ _ _ m).trans R))
def Xaa:∀(n:Nat),0<=n:=@Nat.zero_le
def Xab:∀{α:Type} {l:List α} {i:Nat} {a:α},l[i]?=some a->a∈l:=@List.mem_of_getElem?
def Xac:∀{α:Type} {β:Type} {L:List α} (f:α->β),List.length (List.map f L)=List.length L:=@List.length_map
def Xad:∀{α:Type} {l:List α},List.take (List.length l) l=l:=@List.take_length
def Xae:∀(n:Nat),n<=n:=@Nat.le_refl
def Xaf:∀{n m k:Nat},n<=m->m<=k->n<=k:=@Nat.le_trans
def Xag:∀{α:Type} {a:α} {L:List α},List.length (a::L)=List.length L+1:=@List.length_cons
theorem Xah:∀{n:Nat},n>0->∀{i j:Nat},i<=j->n^i<=n^j:=@Nat.pow_le_pow_right
theorem Xai:∀{α:Type} {i:Nat} {l:List α},List.length l<=i->List.take i l=l:=@List.take_of_length_le
def Xaj:∀{α:Type} {p:α->Bool} {l:List α},List.any l p=true↔∃x,x∈l/\p x=true:=@List.any_eq_true
def Xak:∀(a b:Bool),((a&&b)=true)=(a=true/\b=true):=@Bool.and_eq_true
theorem Xal:∀(n:Nat),Int.toNat ↑n=n:=@Int.toNat_natCast
def Xam:∀{x y:Bool},(x||y)=false↔x=false/\y=false:=@Bool.or_eq_false_iff
def Xan:∀{m n:Nat},m∈List.range n↔m<n:=@List.mem_range
def Xao:∀{α:Type} {β:Type} {b:β} {f:α->β} {l:List α},b∈List.map f l↔∃a,a∈l/\f a=b:=@List.mem_map
def Xap:∀{α:Type} {p:α->Bool} {l:List α},List.all l p=true↔∀(x:α),x∈l->p x=true:=@List.all_eq_true
def Xaq:∀{α:Type} {β:Type} {f:α->β} {l₁ l₂:List α},List.map f (l₁++l₂)=List.map f l₁++List.map f l₂:=@List.map_append
theorem Xar:∀{α:Type} {L bs:List α},List.length (L++bs)=List.length L+List.length bs:=@List.length_append
theorem Xas:∀{n:Nat},List.range (Nat.succ n)=List.range n++[n]:=@List.range_succ
def Xat:∀{α:Type} (L:List α),L++[]=L:=@List.append_nil
def Xau:∀{α:Type} [inst:BEq α] [LawfulBEq α] {a b:α},(a == b)=true↔a=b:=@beq_iff_eq
def Xav:∀{α:Type} {β:Type} {f:α->β} {a:α} {l:List α},List.map f (a::l)=f a::List.map f l:=@List.map_cons
def Xaw:∀{α:Type} (L bs cs:List α),L++bs++cs=L++(bs++cs):=@List.append_assoc
theorem Xax:∀{n m k:Nat},n<m->m<=k->n<k:=@Nat.lt_of_lt_of_le
def Xay:∀(b:Bool),(true&&b)=b:=@Bool.true_and
def Xaz:∀{a b:Bool},a=b↔(a=true↔b=true):=@Bool.eq_iff_iff
def Xba:∀{α:Type} {p:α->Bool} {l:List α},List.any l p=false↔∀(x:α),x∈l->¬p x=true:=@List.any_eq_false
def Xbb:∀{α:Type} {a b:α},Option.getD (some a) b=a:=@Option.getD_some
def Xbc:∀{α:Type} {a b:α},a∈[b]↔a=b:=@List.mem_singleton
theorem Xbd:∀(n m:Nat),n<m\/n>=m:=@Nat.lt_or_ge
def Xbe:(false=true)=False:=@Bool.false_eq_true
theorem Xbf:∀{α:Type} {p q:List α},p++q=[]↔p=[]/\q=[]:=@List.append_eq_nil_iff
def Xbg:∀{α:Type} {l:List α},List.drop 0 l=l:=@List.drop_zero
def Xbh:∀(x:Nat) {y:Nat},0<y->x%y<y:=@Nat.mod_lt
def Xbi:∀{α:Type} (L:List α),[]++L=L:=@List.nil_append
def Xbj:∀{α:Type} {i:Nat} {l:List α},List.length (List.take i l)=min i (List.length l):=@List.length_take
def Xbk:∀(b:Bool),(b&&true)=b:=@Bool.and_true
def Xbl:∀(b:Bool),(false||b)=b:=@Bool.false_or
def Xbm:∀(n:Nat),Int.natAbs ↑n=n:=@Int.natAbs_natCast
def Xbn:∀{α:Type} {β:Type} {f:α->β},List.map f []=[]:=@List.map_nil
def Xbo:∀(n m:Nat),n^Nat.succ m=n^m*n:=@Nat.pow_succ
def Xbp:∀(b:Bool),((!b)=true)=(b=false):=@Bool.not_eq_true'
theorem Xbq:∀{α:Type} {i:Nat} {l:List α} (h:i<List.length l),List.drop i l=l[i]::List.drop (i+1) l:=@List.drop_eq_getElem_cons
def Xbr:∀{α:Type} {l:List α},List.drop (List.length l) l=[]:=@List.drop_length
def Xbs:∀{α:Type} (p:α->Bool) (l:List α),List.length (List.filter p l)<=List.length l:=@List.length_filter_le
theorem Xbt:∀{α:Type} (i:Nat) (l:List α),List.take i l++List.drop i l=l:=@List.take_append_drop
theorem Xbu:∀{a b:Nat},a<b->a%b=a:=@Nat.mod_eq_of_lt
def Xbv:∀(n k:Nat),n/k<=n:=@Nat.div_le_self
def Xbw:∀(b:Bool),((!b)=false)=(b=true):=@Bool.not_eq_false'
def Xbx:(!false)=true:=@Bool.not_false
def Xby:∀(n:Nat),0+n=n:=@Nat.zero_add
def Xbz:∀(a:Int),a<=a:=@Int.le_refl
theorem Xca:∀{x i:Nat},x<2^i->Nat.testBit x i=false:=@Nat.testBit_lt_two_pow
def Xcb:∀{n m:Nat} (k:Nat),n<=m->n*k<=m*k:=@Nat.mul_le_mul_right
def Xcc:(!true)=false:=@Bool.not_true
theorem Xcd:∀{a m n:Nat},1<a->m<n->a^m<a^n:=@Nat.pow_lt_pow_right
def Xce:∀{a b:Int},0<=a->Int.tdiv a b=a/b:=@Int.tdiv_eq_ediv_of_nonneg
def aQ(k:Nat)(h:k<=4611686018427387904:=by omega):IntKind.i64.wrap ((k:Int)+1)=((k+1:Nat):Int):=mT h
def aL{f:FuncId}{args:List AV}{r:AV}{H:aM}{K:AV->aM->Prop}(h:PC Tryz.prog f args r)(A:K r H):bQ Tryz.prog f args H K:=h.use A
end Go.Proofs.YtkfhgjihlbilpaaGreatDoor
