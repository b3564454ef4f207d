/- Texts joined by a program: Tools. -/
import Derived.Test.YtdlijlecpopadaaGreatDoorZv10
set_option linter.unusedSimpArgs false
set_option linter.unusedVariables false
set_option maxRecDepth 100000
namespace Go.Proofs.YtdlijlecpopadaaGreatDoor
open Go.Aw Go.Aw.D Go.Proofs Ty
abbrev int(n:Int):AV:=.v (.int .i64 n)
abbrev str(s:ByteArray):AV:=.v (.string s)
abbrev boo(b:Bool):AV:=.v (.bool b)
theorem cN{α:Type}{l:List α}{k:Nat}{x:α}(h:l[k]?=some x):l.take (k+1)=l.take k++[x]:=by
 rw[List.take_add_one,h];rfl
theorem bC{α:Type}{l:List α}{k:Nat}(h:k<l.length):∃x,l[k]?=some x:=⟨l[k],List.getElem?_eq_getElem h⟩
theorem inB{k n:Nat}(h:k<n):0≤(k:Int)∧(k:Int)<(n:Int):=by omega
theorem bG{k:Nat}(h:k≤4611686018427387904):IntKind.i64.wrap ((k:Int)+1)=((k+1:Nat):Int):=by rw[aT (by omega)];omega
theorem Tg{k:Nat}(h:k≤4611686018427387904):(IntKind.i64.wrap ((k:Int)-1)).toNat=k-1:=by rw[aT (by omega)];omega
theorem mH{k:Nat}(h:k≤4611686018427387904):IntKind.i64.wrap ((k:Int)-1)=(k:Int)-1:=aT (by omega)
def AD(e:TypeId×Nat×Nat)(d:Option Tmp)(j:Nat)(x:AV)(ρ:Env)(H:aF)(K:Env→aF→Prop):Prop:=match H j with
 | some r => B0 H x fun news => (r.e = e.1 ∧ r.sz = e.2.1 ∧ dK e.2.1 news ∧ (r.es.length + news.length) * e.2.2 ≤ 140737488355328) ∧
       ∀k',H k'=none→K (upd ρ d (.os k')) (aJ (aJ H j none) k' (some ⟨e.1,e.2.1,r.es++news⟩))
 | none=>False
theorem Rq{P:Program}{d:Option Tmp}{t:TypeId}{j:Nat}{x:AV}{ρ:Env}{H:aF}{K:Env→aF→Prop}:Tj P d t (.os j) x ρ H K=aW (bY P t) (fun e=>AD e d j x ρ H K):=by
 unfold Tj vV AD;cases bY P t with
 | none=>rfl
 | some e=>obtain⟨a,b,c⟩:=e;rfl
@[congr] theorem wappE_c {e d j x x' ρ H K} (h':x=x'):AD e d j x ρ H K=AD e d j x' ρ H K:=h'▸rfl
@[congr] theorem FCalls_c {P f a a' H R} (h':a=a'):bN P f a H R=bN P f a' H R:=h'▸rfl
theorem bA{e:TypeId×Nat×Nat}{d:Option Tmp}{j:Nat}{news:List (List AV)}{ρ:Env}{H:aF}{K:Env→aF→Prop}{r:Row}(hj:H j=some r)
   (h1:r.e=e.1∧r.sz=e.2.1) (h2:dK e.2.1 news) (h3:(r.es.length+news.length)*e.2.2≤140737488355328)
   (h:∀j',H j'=none→K (upd ρ d (.os j')) (aJ (aJ H j none) j' (some ⟨e.1,e.2.1,r.es++news⟩))):AD e d j (.sl news) ρ H K:=by
 unfold AD;simp only[hj];exact⟨⟨h1.1,h1.2,h2,h3⟩,h⟩
theorem yK{e:TypeId×Nat×Nat}{d:Option Tmp}{j i:Nat}{r':Row}{ρ:Env}{H:aF}{K:Env→aF→Prop}{r:Row}(hj:H j=some r)(hi:H i=some r')
   (h1:r.e=e.1∧r.sz=e.2.1) (h2:dK e.2.1 r'.es) (h3:(r.es.length+r'.es.length)*e.2.2≤140737488355328)
   (h:∀j',H j'=none→K (upd ρ d (.os j')) (aJ (aJ H j none) j' (some ⟨e.1,e.2.1,r.es++r'.es⟩))):AD e d j (.os i) ρ H K:=by
 unfold AD;simp only[hj,B0,hi];exact⟨⟨h1.1,h1.2,h2,h3⟩,h⟩
theorem bD{P:Program}{C:kP}{PC:FuncId→List AV→aF→AV→Prop}{mt:Nat→Bool}{a b:Code}{x:AV}{K:Env→aF→Prop}{Q:Ex→Env→aF→Prop}{ρ:Env}{H:aF}(J:Env→aF→Prop)(h1:∀ρ H,J ρ H→K ρ H)
 (h2:∀K:Env→aF→Prop,(∀ρ H,J ρ H→K ρ H)→uF x (awp P C PC mt a (Ex.seq K Q)) (awp P C PC mt b (Ex.seq K Q)) ρ H):uF x (awp P C PC mt a (Ex.seq K Q)) (awp P C PC mt b (Ex.seq K Q)) ρ H:=h2 K h1
theorem mZ{x:AV}{A B:Env→aF→Prop}{ρ:Env}{H:aF}(J:Env→aF→Prop)(h1:J ρ H)(h2:∀ρ H,J ρ H→uF x A B ρ H):uF x A B ρ H:=h2 ρ H h1
theorem Ls{P:Program}{C:kP}{PC:FuncId→List AV→aF→AV→Prop}{mt:Nat→Bool}{c:Code}{id:Nat}{Q:Ex→Env→aF→Prop}{ρ:Env}{H:aF}(J:Env→aF→Prop)(h1:∀ρ H,J ρ H→Q .normal ρ H)
   (h2:∀Q':Ex→Env→aF→Prop,(∀ρ H,J ρ H→Q' (.exit id) ρ H)→(∀ρ H,Q .ret ρ H→Q' .ret ρ H)→Nc (awp P C PC mt c) Q' ρ H):Nc (awp P C PC mt c) (Ex.blk id Q) ρ H:=
 h2 (Ex.blk id Q) (fun ρ H h=>by rw[JT];exact h1 ρ H h) (fun ρ H h=>by rw[M4];exact h)
theorem fU{P:Program}{C:kP}{PC:FuncId→List AV→aF→AV→Prop}{mt:Nat→Bool}{a b:Code}{x:AV}{Q:Ex→Env→aF→Prop}{ρ:Env}{H:aF}(J:Env→aF→Prop)(h1:∀ρ H,J ρ H→Q .normal ρ H)
   (h2:∀Q':Ex→Env→aF→Prop,(∀ρ H,J ρ H→Q' .normal ρ H)→(∀i ρ H,Q (.exit i) ρ H→Q' (.exit i) ρ H)→(∀ρ H,Q .ret ρ H→Q' .ret ρ H)→uF x (awp P C PC mt a Q') (awp P C PC mt b Q') ρ H):uF x (awp P C PC mt a Q) (awp P C PC mt b Q) ρ H:=
 h2 Q h1 (fun _ _ _ h=>h) (fun _ _ h=>h)
def Fg(P:Program)(t:TypeId)(l:Option Nat)(d:Option Tmp)(j i f:Nat)(cs:List AV)(ρ:Env)(H:aF)(K:Env→aF→Prop):Prop:=match H j with
 | some r=>(i<r.es.length∧cs.length=l.getD 1∧f+cs.length≤r.sz∧(l=none→∃i,P.info? t=some i∧i.size=1))∧K (upd ρ d .any) (aJ H j (some { r with es:=r.es.set i (lT (r.es.getD i []) f cs) }))
 | none=>False
def EO(P:Program)(t:TypeId)(l:Option Nat)(d:Option Tmp)(j i f:Nat)(cs:List AV)(ρ:Env)(H:aF)(K:Env→aF→Prop):Prop:=
 Fg P t l d j i f cs ρ H K∨∃nl:List (Nat×TypeId×Nat),(∀x∈nl,cs[x.1]?=some (.v (.slice none 0 0))∧0<x.2.2)∧jI nl cs H fun cs H=>Fg P t l d j i f cs ρ H K
theorem Q5{P:Program}{d:Option Tmp}{t:TypeId}{j i f:Nat}{cs:List AV}{ρ:Env}{H:aF}{K:Env→aF→Prop}:OO P d t (.op j i f) cs ρ H K=aW (ldT P t) (fun l=>EO P t l d j i f cs ρ H K):=by
 have hB:∀cs H,vC P ⟨d,.move (.tmp 0),0,"",#[],none⟩ t (.op j i f) cs ρ H K=aW (ldT P t) (fun l=>Fg P t l d j i f cs ρ H K):=by
   intro cs H;unfold vC Fg;cases h1:H j <;> cases h2:ldT P t <;> simp[aW,h1]
 unfold OO qB EO;simp only[hB];cases h2:ldT P t <;> simp[aW]
@[congr] theorem wputE_c {P t l d j i f cs cs' ρ H K} (h':cs=cs'):EO P t l d j i f cs ρ H K=EO P t l d j i f cs' ρ H K:=h'▸rfl
theorem aU{P:Program}{t:TypeId}{m:Nat}{d:Option Tmp}{j i f:Nat}{cs:List AV}{ρ:Env}{H:aF}{K:Env→aF→Prop}{r:Row}(hj:H j=some r)(h1:i<r.es.length∧cs.length=m∧f+cs.length≤r.sz)
   (h:K (upd ρ d .any) (aJ H j (some { r with es:=r.es.set i (lT (r.es.getD i []) f cs) }))):EO P t (some m) d j i f cs ρ H K:=by
 refine .inl ?_;unfold Fg;simp only[hj];exact⟨⟨h1.1,h1.2.1,h1.2.2,by simp⟩,h⟩
theorem dU{P:Program}{t:TypeId}{d:Option Tmp}{j i f:Nat}{cs:List AV}{ρ:Env}{H:aF}{K:Env→aF→Prop}{r:Row}(ht:∃i,P.info? t=some i∧i.size=1)(hj:H j=some r)(h1:i<r.es.length∧cs.length=1∧f+cs.length≤r.sz)
   (h:K (upd ρ d .any) (aJ H j (some { r with es:=r.es.set i (lT (r.es.getD i []) f cs) }))):EO P t none d j i f cs ρ H K:=by
 refine .inl ?_;unfold Fg;simp only[hj];exact⟨⟨h1.1,h1.2.1,h1.2.2,fun _=>ht⟩,h⟩
theorem W0:Int.toNat 0=0:=rfl
theorem Sj{a b:Prop}:(a→b→a∧b)=True:=by simp;exact fun h1 h2=>⟨h1,h2⟩
attribute [go_sem ↓] Rq Q5
attribute [go_sem] Q5 List.set_cons_zero List.set_cons_succ
attribute [go_sem] Int.reduceToNat W0 beq_true beq_false Bool.not_eq_true' Bool.and_eq_true Sj
attribute [go_sem] Rq N0 AL NJ Bool.or_true Bool.true_or Bool.false_or Bool.or_false
theorem dE{H:aF}{i j j':Nat}{r r':Row}(hi:H i=some r)(hji:j≠i)(hj':H j'=none):aJ (aJ H j none) j' (some r') i=some r:=by
 have h1:i≠j':=fun e=>by subst e;rw[hi]at hj';simp at hj'
 rw[aD _ _ _ _ h1,aD _ _ _ _ (Ne.symm hji),hi]
theorem jJ{H:aF}{i j:Nat}{r r':Row}(hi:H i=some r)(hj:H j=none):aJ H j (some r') i=some r:=by
 have h1:i≠j:=fun e=>by subst e;rw[hi]at hj;simp at hj
 rw[aD _ _ _ _ h1,hi]
theorem aO{H:aF}{i j:Nat}{r:Row}(hi:H i=some r)(hj:H j=none):i≠j:=fun e=>by subst e;rw[hi]at hj;simp at hj
def opt{α:Type}(b:Bool)(f:α):List α:=match b with|true=>[f]|false=>[]
theorem gP{α:Type}{b:Bool}{f:α}(h:b=true):opt b f=[f]:=by rw[h];rfl
theorem gO{α:Type}{b:Bool}{f:α}(h:b=false):opt b f=[]:=by rw[h];rfl
theorem bW{α:Type}(b:Bool)(f:α):(opt b f).length≤1:=by cases b <;> simp[opt]
theorem IL{α:Type}{e:TypeId}{sz:Nat}{enc:α→List AV}{H:aF}{k:Nat}{l l':List α}{cs:List (List AV)}(h:cs=l'.map enc):aJ H k (some ⟨e,sz,l.map enc++cs⟩) k=some (⟨e,sz,(l++l').map enc⟩:Row):=by rw[aB,h,List.map_append]
theorem dT{e:TypeId}{sz:Nat}{enc:Fault→List AV}{H:aF}{k:Nat}{l l':List Fault}{cs:List (List AV)}(h:cs=l'.map enc):aJ H k (some ⟨e,sz,l.map enc++cs⟩) k=some (⟨e,sz,(l++l').map enc⟩:Row):=IL h
theorem fR{e:TypeId}{sz:Nat}{enc:Int→List AV}{H:aF}{k:Nat}{l l':List Int}{cs:List (List AV)}(h:cs=l'.map enc):aJ H k (some ⟨e,sz,l.map enc++cs⟩) k=some (⟨e,sz,(l++l').map enc⟩:Row):=IL h
abbrev nG(t:VType):Row:=⟨87,14,[bE t]⟩
abbrev mG(o:Order):Row:=⟨143,16,[aX o]⟩
abbrev qQ(a:Arc):Row:=⟨139,6,[fC a]⟩
abbrev jF(l:List Int):Row:=⟨35,1,l.map aM⟩
abbrev aY(l:List Fault):Row:=⟨128,2,l.map fI⟩
end Go.Proofs.YtdlijlecpopadaaGreatDoor
