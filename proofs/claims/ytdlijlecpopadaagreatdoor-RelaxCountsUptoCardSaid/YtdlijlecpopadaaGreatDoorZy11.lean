/- Texts joined by a program: Tools. -/
import Derived.Test.YtdlijlecpopadaaGreatDoorZy10

set_option linter.unusedSimpArgs false
set_option linter.unusedVariables false
namespace Go.Proofs.YtdlijlecpopadaaGreatDoor
open Go.Aw Go.Aw.D Go.Proofs Ty
abbrev int(n:Int):AV:=.v (.int .i64 n)
abbrev str(s:ByteArray):AV:=.v (.string s)
abbrev boo(b:Bool):AV:=.v (.bool b)
theorem cM{α:Type}{l:List α}{k:Nat}{x:α}(h:l[k]?=some x):l.take (k+1)=l.take k++[x]:=by
 rw[List.take_add_one,h];rfl
theorem aW{α:Type}{l:List α}{k:Nat}(h:k<l.length):∃x,l[k]?=some x:=⟨l[k],List.getElem?_eq_getElem h⟩
theorem inB{k n:Nat}(h:k<n):0≤(k:Int)∧(k:Int)<(n:Int):=by omega
theorem bA{k:Nat}(h:k≤4611686018427387904):IntKind.i64.wrap ((k:Int)+1)=((k+1:Nat):Int):=by rw[aQ (by omega)];omega
theorem Ud{k:Nat}(h:k≤4611686018427387904):(IntKind.i64.wrap ((k:Int)-1)).toNat=k-1:=by rw[aQ (by omega)];omega
theorem nG{k:Nat}(h:k≤4611686018427387904):IntKind.i64.wrap ((k:Int)-1)=(k:Int)-1:=aQ (by omega)
def Bv(e:TypeId×Nat×Nat)(d:Option Tmp)(j:Nat)(x:AV)(ρ:Env)(H:aE)(K:Env→aE→Prop):Prop:=match H j with
 | some r => CQ H x fun news => (r.e = e.1 ∧ r.sz = e.2.1 ∧ dY e.2.1 news ∧ (r.es.length + news.length) * e.2.2 ≤ 140737488355328) ∧
       ∀k',H k'=none→K (upd ρ d (.os k')) (aG (aG H j none) k' (some ⟨e.1,e.2.1,r.es++news⟩))
 | none=>False
theorem UC{P:Program}{d:Option Tmp}{t:TypeId}{j:Nat}{x:AV}{ρ:Env}{H:aE}{K:Env→aE→Prop}:Tk P d t (.os j) x ρ H K=bD (cG P t) (fun e=>Bv e d j x ρ H K):=by
 unfold Tk wT Bv;cases cG P t with
 | none=>rfl
 | some e=>obtain⟨a,b,c⟩:=e;rfl
@[congr] theorem wappE_c {e d j x x' ρ H K} (h':x=x'):Bv e d j x ρ H K=Bv e d j x' ρ H K:=h'▸rfl
@[congr] theorem FCalls_c {P f a a' H R} (h':a=a'):bH P f a H R=bH P f a' H R:=h'▸rfl
theorem aX{e : TypeId × Nat × Nat}{d : Option Tmp}{j : Nat}{news : List (List AV)}{ρ : Env}{H : aE}{K : Env → aE → Prop}{r : Row}(hj : H j = some r)
   (h1:r.e=e.1∧r.sz=e.2.1) (h2:dY e.2.1 news) (h3:(r.es.length+news.length)*e.2.2≤140737488355328)
   (h:∀j',H j'=none→K (upd ρ d (.os j')) (aG (aG H j none) j' (some ⟨e.1,e.2.1,r.es++news⟩))):Bv e d j (.sl news) ρ H K:=by
 unfold Bv;simp only[hj];exact⟨⟨h1.1,h1.2,h2,h3⟩,h⟩
theorem zM{e : TypeId × Nat × Nat}{d : Option Tmp}{j i : Nat}{r' : Row}{ρ : Env}{H : aE}{K : Env → aE → Prop}{r : Row}(hj : H j = some r)(hi : H i = some r')
   (h1:r.e=e.1∧r.sz=e.2.1) (h2:dY e.2.1 r'.es) (h3:(r.es.length+r'.es.length)*e.2.2≤140737488355328)
   (h:∀j',H j'=none→K (upd ρ d (.os j')) (aG (aG H j none) j' (some ⟨e.1,e.2.1,r.es++r'.es⟩))):Bv e d j (.os i) ρ H K:=by
 unfold Bv;simp only[hj,CQ,hi];exact⟨⟨h1.1,h1.2,h2,h3⟩,h⟩
theorem aU{P : Program}{C : lB}{PC : FuncId → List AV → aE → AV → Prop}{mt : Nat → Bool}{a b : Code}{x : AV}{K : Env → aE → Prop}{Q : Ex → Env → aE → Prop}{ρ : Env}{H : aE}(J : Env → aE → Prop)(h1 : ∀ ρ H, J ρ H → K ρ H)
 (h2:∀K:Env→aE→Prop,(∀ρ H,J ρ H→K ρ H)→wA x (awp P C PC mt a (Ex.seq K Q)) (awp P C PC mt b (Ex.seq K Q)) ρ H):wA x (awp P C PC mt a (Ex.seq K Q)) (awp P C PC mt b (Ex.seq K Q)) ρ H:=h2 K h1
theorem oE{x:AV}{A B:Env→aE→Prop}{ρ:Env}{H:aE}(J:Env→aE→Prop)(h1:J ρ H)(h2:∀ρ H,J ρ H→wA x A B ρ H):wA x A B ρ H:=h2 ρ H h1
theorem MM{P : Program}{C : lB}{PC : FuncId → List AV → aE → AV → Prop}{mt : Nat → Bool}{c : Code}{id : Nat}{Q : Ex → Env → aE → Prop}{ρ : Env}{H : aE}(J : Env → aE → Prop)(h1 : ∀ ρ H, J ρ H → Q .normal ρ H)
   (h2:∀Q':Ex→Env→aE→Prop,(∀ρ H,J ρ H→Q' (.exit id) ρ H)→(∀ρ H,Q .ret ρ H→Q' .ret ρ H)→NM (awp P C PC mt c) Q' ρ H):NM (awp P C PC mt c) (Ex.blk id Q) ρ H:=
 h2 (Ex.blk id Q) (fun ρ H h=>by rw[KE];exact h1 ρ H h) (fun ρ H h=>by rw[ON];exact h)
theorem dT{P : Program}{C : lB}{PC : FuncId → List AV → aE → AV → Prop}{mt : Nat → Bool}{a b : Code}{x : AV}{Q : Ex → Env → aE → Prop}{ρ : Env}{H : aE}(J : Env → aE → Prop)(h1 : ∀ ρ H, J ρ H → Q .normal ρ H)
   (h2:∀Q':Ex→Env→aE→Prop,(∀ρ H,J ρ H→Q' .normal ρ H)→(∀i ρ H,Q (.exit i) ρ H→Q' (.exit i) ρ H)→(∀ρ H,Q .ret ρ H→Q' .ret ρ H)→wA x (awp P C PC mt a Q') (awp P C PC mt b Q') ρ H):wA x (awp P C PC mt a Q) (awp P C PC mt b Q) ρ H:=
 h2 Q h1 (fun _ _ _ h=>h) (fun _ _ h=>h)
def CB(P:Program)(t:TypeId)(l:Option Nat)(d:Option Tmp)(j i f:Nat)(cs:List AV)(ρ:Env)(H:aE)(K:Env→aE→Prop):Prop:=match H j with
 | some r=>(i<r.es.length∧cs.length=l.getD 1∧f+cs.length≤r.sz∧(l=none→∃i,P.info? t=some i∧i.size=1))∧K (upd ρ d .any) (aG H j (some { r with es:=r.es.set i (nC (r.es.getD i []) f cs) }))
 | none=>False
def C7(P:Program)(t:TypeId)(l:Option Nat)(d:Option Tmp)(j i f:Nat)(cs:List AV)(ρ:Env)(H:aE)(K:Env→aE→Prop):Prop:=
 CB P t l d j i f cs ρ H K∨∃nl:List (Nat×TypeId×Nat),(∀x∈nl,cs[x.1]?=some (.v (.slice none 0 0))∧0<x.2.2)∧jQ nl cs H fun cs H=>CB P t l d j i f cs ρ H K
theorem RV{P:Program}{d:Option Tmp}{t:TypeId}{j i f:Nat}{cs:List AV}{ρ:Env}{H:aE}{K:Env→aE→Prop}:QE P d t (.op j i f) cs ρ H K=bD (ldT P t) (fun l=>C7 P t l d j i f cs ρ H K):=by
 have hB:∀cs H,wN P ⟨d,.move (.tmp 0),0,"",#[],none⟩ t (.op j i f) cs ρ H K=bD (ldT P t) (fun l=>CB P t l d j i f cs ρ H K):=by
   intro cs H;unfold wN CB;cases h1:H j <;> cases h2:ldT P t <;> simp[bD,h1]
 unfold QE rK C7;simp only[hB];cases h2:ldT P t <;> simp[bD]
theorem AN{P : Program}{t : TypeId}{m : Nat}{d : Option Tmp}{j i f : Nat}{cs : List AV}{ρ : Env}{H : aE}{K : Env → aE → Prop}{r : Row}(o : Nat)(e : TypeId)(sz : Nat)(hc : cs[o]? = some (.v (.slice none 0 0)) ∧ 0 < sz)(hj : H j = some r)(h1 : i < r.es.length ∧ cs.length = m ∧ f + cs.length ≤ r.sz)
   (h:∀k,H k=none→K (upd ρ d .any) (aG (aG H k (some ⟨e,sz,[]⟩)) j (some { r with es:=r.es.set i (nC (r.es.getD i []) f (cs.set o (.os k))) }))):C7 P t (some m) d j i f cs ρ H K:=by
 refine .inr ⟨[(o,e,sz)],?_,fun k hk=>?_⟩
 · intro x hx
   simp only[List.mem_cons,List.not_mem_nil,or_false]at hx;subst hx;exact hc
 · have hne:j≠k:=fun e=>by rw[e,hk]at hj;cases hj
   unfold jQ CB;simp only[show aG H k (some (⟨e,sz,[]⟩:Row)) j=some r by rw[aG];rw[if_neg hne];exact hj];exact⟨⟨h1.1,by simpa using h1.2.1,by simpa using h1.2.2,by simp⟩,h k hk⟩
@[congr] theorem wputE_c {P t l d j i f cs cs' ρ H K} (h':cs=cs'):C7 P t l d j i f cs ρ H K=C7 P t l d j i f cs' ρ H K:=h'▸rfl
theorem aP{P : Program}{t : TypeId}{m : Nat}{d : Option Tmp}{j i f : Nat}{cs : List AV}{ρ : Env}{H : aE}{K : Env → aE → Prop}{r : Row}(hj : H j = some r)(h1 : i < r.es.length ∧ cs.length = m ∧ f + cs.length ≤ r.sz)
   (h:K (upd ρ d .any) (aG H j (some { r with es:=r.es.set i (nC (r.es.getD i []) f cs) }))):C7 P t (some m) d j i f cs ρ H K:=by
 refine .inl ?_;unfold CB;simp only[hj];exact⟨⟨h1.1,h1.2.1,h1.2.2,by simp⟩,h⟩
theorem bY{P : Program}{t : TypeId}{d : Option Tmp}{j i f : Nat}{cs : List AV}{ρ : Env}{H : aE}{K : Env → aE → Prop}{r : Row}(ht : ∃ i, P.info? t = some i ∧ i.size = 1)(hj : H j = some r)(h1 : i < r.es.length ∧ cs.length = 1 ∧ f + cs.length ≤ r.sz)
   (h:K (upd ρ d .any) (aG H j (some { r with es:=r.es.set i (nC (r.es.getD i []) f cs) }))):C7 P t none d j i f cs ρ H K:=by
 refine .inl ?_;unfold CB;simp only[hj];exact⟨⟨h1.1,h1.2.1,h1.2.2,fun _=>ht⟩,h⟩
theorem Zy:Int.toNat 0=0:=rfl
theorem Uk{a b:Prop}:(a→b→a∧b)=True:=by simp;exact fun h1 h2=>⟨h1,h2⟩
attribute [go_sem ↓] UC RV
attribute [go_sem] RV List.set_cons_zero List.set_cons_succ
attribute [go_sem] Int.reduceToNat Zy beq_true beq_false Bool.not_eq_true' Bool.and_eq_true Uk
attribute [go_sem] UC MN BJ OI Bool.or_true Bool.true_or Bool.false_or Bool.or_false
theorem dN{H:aE}{i j j':Nat}{r r':Row}(hi:H i=some r)(hji:j≠i)(hj':H j'=none):aG (aG H j none) j' (some r') i=some r:=by
 have h1:i≠j':=fun e=>by subst e;rw[hi]at hj';simp at hj'
 rw[aC _ _ _ _ h1,aC _ _ _ _ (Ne.symm hji),hi]
theorem jV{H:aE}{i j:Nat}{r r':Row}(hi:H i=some r)(hj:H j=none):aG H j (some r') i=some r:=by
 have h1:i≠j:=fun e=>by subst e;rw[hi]at hj;simp at hj
 rw[aC _ _ _ _ h1,hi]
theorem aN{H:aE}{i j:Nat}{r:Row}(hi:H i=some r)(hj:H j=none):i≠j:=fun e=>by subst e;rw[hi]at hj;simp at hj
def opt{α:Type}(b:Bool)(f:α):List α:=match b with|true=>[f]|false=>[]
theorem iH{α:Type}{b:Bool}{f:α}(h:b=true):opt b f=[f]:=by rw[h];rfl
theorem iG{α:Type}{b:Bool}{f:α}(h:b=false):opt b f=[]:=by rw[h];rfl
theorem cD{α:Type}(b:Bool)(f:α):(opt b f).length≤1:=by cases b <;> simp[opt]
theorem IC{α:Type}{e:TypeId}{sz:Nat}{enc:α→List AV}{H:aE}{k:Nat}{l l':List α}{cs:List (List AV)}(h:cs=l'.map enc):aG H k (some ⟨e,sz,l.map enc++cs⟩) k=some (⟨e,sz,(l++l').map enc⟩:Row):=by rw[aA,h,List.map_append]
theorem eS{e:TypeId}{sz:Nat}{enc:Fault→List AV}{H:aE}{k:Nat}{l l':List Fault}{cs:List (List AV)}(h:cs=l'.map enc):aG H k (some ⟨e,sz,l.map enc++cs⟩) k=some (⟨e,sz,(l++l').map enc⟩:Row):=IC h
theorem gR{e:TypeId}{sz:Nat}{enc:Int→List AV}{H:aE}{k:Nat}{l l':List Int}{cs:List (List AV)}(h:cs=l'.map enc):aG H k (some ⟨e,sz,l.map enc++cs⟩) k=some (⟨e,sz,(l++l').map enc⟩:Row):=IC h
abbrev oI(t:VType):Row:=⟨87,14,[bC t]⟩
abbrev nD(o:Order):Row:=⟨143,16,[aV o]⟩
abbrev sD(a:Arc):Row:=⟨139,6,[eH a]⟩
abbrev kG(l:List Int):Row:=⟨35,1,l.map aO⟩
abbrev bF(l:List Fault):Row:=⟨128,2,l.map gB⟩
end Go.Proofs.YtdlijlecpopadaaGreatDoor
