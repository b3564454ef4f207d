/- Texts joined by a program: AwSound, AwTab, AwState. -/
import Derived.Lib.ItoaMem
import Derived.Lib.TrailingZeros
import Derived.Test.YtdlijlecpopadaaGreatDoorZv03
set_option linter.unusedSimpArgs false
set_option linter.unusedVariables false
set_option maxRecDepth 100000
section
namespace Go.Aw
open Go.RowKit
section
variable{P:Program}{S:Sg}{H:aF}{w:World}{G:Option Bool}{K:AV→Prop}
theorem vK{s:Sem Value}{v:Value}{w':World}(h:s.run P w'=.ok v w'):(do pure (Next.value (←s)):Sem Next).run P w'=.ok (.value v) w':=by
 simp[h]
def kR(P:Program)(S:Sg)(H:aF)(w:World)(a:Act)(op:Op)(z:AV):Prop:=
 ∃v,rep S w z v∧∀w',Agree S H w w'→∀o:Oper,o.op=op→(execOp a.eval o).run P w'=.ok (.value v) w'
theorem kR.of_does{a:Act}{op:Op}{z:AV}{s:Sem Value}(hs:sI P S H w z s)(he:∀o:Oper,o.op=op→execOp a.eval o=(do pure (Next.value (←s)):Sem Next)):kR P S H w a op z:=by
 obtain⟨v,hv,hr⟩:=hs;exact⟨v,hv,fun w' ha o ho=>by rw[he o ho];exact vK (hr w' ha)⟩
theorem lU{G:Option Bool}{ρ:Env}{a:Act}(hF:FR S w ρ a):∀(l:List Operand) {K:List AV→Prop},(∀x∈l,opB a.tmps.size x=true)→wE G ρ l K →
   ∃ys,K ys∧(gt G→aS S w ys (l.map a.eval))
 | [],K,_,h=>⟨[],h,fun _=>by simp[aS]⟩
 | x::rest,K,hb,h=>by
   simp only[wE]at h;obtain⟨y,h,hy⟩:=aL (S:=S) (w:=w) h;obtain⟨ys,hK,hys⟩:=lU hF rest (fun x hx=>hb x (by simp[hx])) h;refine⟨_,hK,fun hg=>?_⟩;simp only[List.map_cons,aS];exact⟨_,_,rfl,hy hg _ (cO hF (hb x (by simp))),hys hg⟩
theorem AO{ρ:Env}{a:Act}{op:Op}(hb:∀x∈op.operands,opB a.tmps.size x=true)(hF:FR S w ρ a)(hH:vF S w H)(h:fY P G ρ H op K):
   ∃z,K z∧(gt G→kR P S H w a op z):=by
 have ev:=fun x hx=>cO hF (hb x hx)
 cases op <;> simp only[fY]at h <;> simp only[Op.operands]at ev hb <;> try exact h.elim
 case move x=>
   obtain⟨z,hz,hy⟩:=aL (S:=S) (w:=w) h;exact⟨z,hz,fun hg=>⟨_,hy hg _ (ev x (by simp)),fun w' _ o ho=>by simp[execOp,ho]⟩⟩
 case assign x=>
   obtain⟨z,hz,hy⟩:=aL (S:=S) (w:=w) h;exact⟨z,hz,fun hg=>⟨_,hy hg _ (ev x (by simp)),fun w' _ o ho=>by simp[execOp,ho]⟩⟩
 case pick c x y=>
   obtain⟨zc,h,hc⟩:=aL (S:=S) (w:=w) h;split at h
   · rename_i b
     obtain⟨z,hz,hy⟩:=G7 (S:=S) (w:=w) h;refine⟨z,hz,fun hg=>?_⟩;have e:=RF (hc hg _ (ev c (by simp)));refine⟨_,hy hg _ _ (ev x (by simp)) (ev y (by simp)),fun w' _ o ho=>?_⟩;simp[execOp,ho,e,asBool]
   · exact h.elim
 case build t parts=>
   obtain⟨ps,h,hps⟩:=lW hF parts.toList (fun p hp=>hb p.2 (by simpa using⟨p.1,by simpa using hp⟩)) h;unfold tG at h;split at h
   · rename_i z pl hz hpl
     split at h
     · rename_i cs hcs
       refine⟨_,h,fun hg=>?_⟩;obtain⟨e1,e2⟩:=hps hg;obtain⟨A',f1,f2,f3⟩:=FV (S:=S) (w:=w) hz hpl hcs e1 e2;refine⟨.agg A',by simp only[rep];exact⟨A'.toList,by simp,f2,f3⟩,fun w' _ o ho=>?_⟩;have:(parts.map fun(p:Nat×Operand)=>(p.1,a.eval p.2)).toList=parts.toList.map fun p=>(p.1,a.eval p.2):=by simp
       rw[←this]at f1;simp only[execOp,ho];exact vK (run_build w' t _ A' f1)
     · exact h.elim
   · exact h.elim
 case load t x=>
   split at h
   · rename_i l hl
     obtain⟨y,h,hy⟩:=aL (S:=S) (w:=w) h;obtain⟨z,hz,hd⟩:=AI hl hH h;exact⟨z,hz,fun hg=>kR.of_does (hd hg _ (hy hg _ (ev x (by simp)))) (fun o ho=>by simp[execOp,ho])⟩
   · exact h.elim
 case nilCheck x=>
   obtain⟨y,h,hy⟩:=aL (S:=S) (w:=w) h;split at h
   · refine⟨_,h,fun hg=>?_⟩
     have e:=hy hg _ (ev x (by simp));refine⟨_,e,fun w' _ o ho=>?_⟩;simp only[rep]at e;obtain⟨b,p,e,_⟩:=e;simp[execOp,ho,e]
   · refine⟨_,h,fun hg=>?_⟩
     have e:=hy hg _ (ev x (by simp));refine⟨_,e,fun w' _ o ho=>?_⟩;simp only[rep]at e;obtain⟨_,b,p,c,_,e⟩:=e;simp[execOp,ho,e]
   · exact h.elim
 case binOp op t x y t'=>
   split at h
   · rename_i hny
     have hy:y=.const (.slice none 0 0):=by
       unfold pD at hny;split at hny
       · rfl
       · simp at hny
     subst hy;obtain⟨x',h,hx⟩:=aL (S:=S) (w:=w) h;obtain⟨hst,h⟩:=h;obtain⟨e,hut⟩:=uM hst;have exec:∀(b:Bool) (ad:Option Addr) (n c:Nat),a.eval x=.slice ad n c→(op=.eql∧b=ad.isNone∨op=.neq∧b= !ad.isNone)→kR P S H w a (.binOp op t x (.const (.slice none 0 0)) t') (.v (.bool b)):=by
       intro b ad n c hx hb;refine⟨.bool b,by simp only[rep],fun w' _ o ho=>?_⟩;have ec:a.eval (.const (.slice none 0 0))=.slice none 0 0:=rfl;simp only[execOp,ho,hx,ec];have hg:(eqGuard op t x (.const (.slice none 0 0)) (.slice ad n c) (.slice none 0 0)).run P w'=.ok () w':=iM op t x _ _ _ (by simp) (by simp) w';have he:(Op.equal t (.slice ad n c) (.slice none 0 0)).run P w'=.ok ad.isNone w':=by
         have e0:Op.equal t (.slice ad n c) (.slice none 0 0)=Op.equalIn (9999+1) t (.slice ad n c) (.slice none 0 0):=rfl;rw[e0];unfold Op.equalIn;cases ad <;> simp[run_underlying hut]
       rcases hb with⟨rfl,rfl⟩|⟨rfl,rfl⟩
       · exact vK (by simp only[Sem.run_bind,hg,Result.andThen_ok];simp[binOp,he])
       · exact vK (by simp only[Sem.run_bind,hg,Result.andThen_ok];simp[binOp,he])
     by_cases hg:gt G
     · have ex:=hx hg _ (ev x (by simp))
       unfold oC at h;split at h
       · simp only[rep]at ex
         obtain⟨ad,n,c,hv,hl,_,_,hc⟩:=ex;cases ad with
         | none=>
           rcases hc with hc|⟨b,o,sz,hc,_⟩
           · exact⟨_,h.1 hc,fun _=>exec _ _ _ _ hv (.inl ⟨rfl,rfl⟩)⟩
           · simp at hc
         | some ad=>exact⟨_,h.2,fun _=>exec _ _ _ _ hv (.inl ⟨rfl,rfl⟩)⟩
       · simp only[rep]at ex
         obtain⟨ad,n,c,hv,hl,_,_,hc⟩:=ex;cases ad with
         | none=>
           rcases hc with hc|⟨b,o,sz,hc,_⟩
           · exact⟨_,h.1 hc,fun _=>exec _ _ _ _ hv (.inr ⟨rfl,rfl⟩)⟩
           · simp at hc
         | some ad=>exact⟨_,h.2,fun _=>exec _ _ _ _ hv (.inr ⟨rfl,rfl⟩)⟩
       · simp only[rep]at ex
         obtain⟨_,_,ad,n,c,hv⟩:=ex;cases ad with
         | none=>exact⟨_,h.1,fun _=>exec _ _ _ _ hv (.inl ⟨rfl,rfl⟩)⟩
         | some ad=>exact⟨_,h.2,fun _=>exec _ _ _ _ hv (.inl ⟨rfl,rfl⟩)⟩
       · simp only[rep]at ex
         obtain⟨_,_,ad,n,c,hv⟩:=ex;cases ad with
         | none=>exact⟨_,h.1,fun _=>exec _ _ _ _ hv (.inr ⟨rfl,rfl⟩)⟩
         | some ad=>exact⟨_,h.2,fun _=>exec _ _ _ _ hv (.inr ⟨rfl,rfl⟩)⟩
       · simp only[rep]at ex
         exact⟨_,h,fun _=>exec _ none 0 0 ex (.inl ⟨rfl,rfl⟩)⟩
       · simp only[rep]at ex
         exact⟨_,h,fun _=>exec _ none 0 0 ex (.inr ⟨rfl,rfl⟩)⟩
       · exact h.elim
     · unfold oC at h
       split at h
       · exact⟨_,h.2,fun hg'=>absurd hg' hg⟩
       · exact⟨_,h.2,fun hg'=>absurd hg' hg⟩
       · exact⟨_,h.2,fun hg'=>absurd hg' hg⟩
       · exact⟨_,h.2,fun hg'=>absurd hg' hg⟩
       · exact⟨_,h,fun hg'=>absurd hg' hg⟩
       · exact⟨_,h,fun hg'=>absurd hg' hg⟩
       · exact h.elim
   obtain⟨x',h,hx⟩:=aL (S:=S) (w:=w) h;obtain⟨y',h,hy⟩:=aL (S:=S) (w:=w) h;obtain⟨z,hz,hd⟩:=L9 (S:=S) (H:=H) (w:=w) h;exact⟨z,hz,fun hg=>kR.of_does (hd hg _ _ (hx hg _ (ev x (by simp))) (hy hg _ (ev y (by simp))) x y) (fun o ho=>by simp[execOp,ho])⟩
 case unOp op t x=>
   obtain⟨x',h,hx⟩:=aL (S:=S) (w:=w) h;obtain⟨z,hz,hd⟩:=OE (P:=P) (S:=S) (H:=H) (w:=w) h;exact⟨z,hz,fun hg=>kR.of_does (hd _ (hx hg _ (ev x (by simp)))) (fun o ho=>by simp[execOp,ho])⟩
 case convert src dst x=>
   obtain⟨x',h,hx⟩:=aL (S:=S) (w:=w) h;obtain⟨z,hz,hd⟩:=II (S:=S) (H:=H) (w:=w) h;exact⟨z,hz,fun hg=>kR.of_does (hd _ (hx hg _ (ev x (by simp)))) (fun o ho=>by simp[execOp,ho])⟩
 case slice t x lo hi m=>
   cases m with
   | some m=>
     cases lo with
     | some lo=>exact h.elim
     | none=>
       cases hi with
       | none=>exact h.elim
       | some hi=>
         simp only at h;obtain⟨x',h,hx⟩:=aL (S:=S) (w:=w) h;obtain⟨hi',h,hhi⟩:=aL (S:=S) (w:=w) h;obtain⟨m',h,hm⟩:=aL (S:=S) (w:=w) h;obtain⟨z,hz,hd⟩:=AF (S:=S) (w:=w) (H:=H) h;exact⟨z,hz,fun hg=>kR.of_does (hd hg _ _ _ (hx hg _ (ev x (by simp))) (hhi hg _ (ev hi (by simp))) (hm hg _ (ev m (by simp)))) (fun o ho=>by simp[execOp,ho])⟩
   | none=>
     simp only at h;obtain⟨x',h,hx⟩:=aL (S:=S) (w:=w) h;cases lo with
     | some lo=>
       cases hi with
       | some hi=>
         obtain⟨lo',h,hlo⟩:=aL (S:=S) (w:=w) h;obtain⟨hi',h,hhi⟩:=aL (S:=S) (w:=w) h;obtain⟨z,hz,hd⟩:=oY hH h;refine⟨z,hz,fun hg=>kR.of_does (hd hg _ (some (a.eval lo)) (some (a.eval hi)) (hx hg _ (ev x (by simp))) ?_ (by simp) ?_ (by simp)) (fun o ho=>by simp[execOp,ho])⟩
         · intro y hy;injection hy with hy;subst hy;exact⟨_,rfl,hlo hg _ (ev lo (by simp))⟩
         · intro y hy;injection hy with hy;subst hy;exact⟨_,rfl,hhi hg _ (ev hi (by simp))⟩
       | none=>
         obtain⟨lo',h,hlo⟩:=aL (S:=S) (w:=w) h;obtain⟨z,hz,hd⟩:=oY hH h;refine⟨z,hz,fun hg=>kR.of_does (hd hg _ (some (a.eval lo)) none (hx hg _ (ev x (by simp))) ?_ (by simp) (by simp) (by simp)) (fun o ho=>by simp[execOp,ho])⟩;intro y hy;injection hy with hy;subst hy;exact⟨_,rfl,hlo hg _ (ev lo (by simp))⟩
     | none=>
       cases hi with
       | some hi=>
         obtain⟨hi',h,hhi⟩:=aL (S:=S) (w:=w) h;obtain⟨z,hz,hd⟩:=oY hH h;refine⟨z,hz,fun hg=>kR.of_does (hd hg _ none (some (a.eval hi)) (hx hg _ (ev x (by simp))) (by simp) (by simp) ?_ (by simp)) (fun o ho=>by simp[execOp,ho])⟩;intro y hy;injection hy with hy;subst hy;exact⟨_,rfl,hhi hg _ (ev hi (by simp))⟩
       | none=>exact h.elim
 case fieldAddr t x f=>
   obtain⟨x',h,hx⟩:=aL (S:=S) (w:=w) h;obtain⟨z,hz,hd⟩:=Ap (G:=G) (S:=S) (H:=H) (w:=w) h;exact⟨z,hz,fun hg=>kR.of_does (hd hg _ (hx hg _ (ev x (by simp)))) (fun o ho=>by simp[execOp,ho])⟩
 case field t x f=>
   split at h
   · rename_i o l ho
     obtain⟨x',h,hx⟩:=aL (S:=S) (w:=w) h;obtain⟨fs,fd,i,hu,hf,rfl,hi,_,hl⟩:=wH ho;obtain⟨z,hz,hd⟩:=AB (S:=S) (H:=H) (w:=w) hl h;refine⟨z,hz,fun hg=>?_⟩;obtain⟨cs,e,hd⟩:=hd hg _ (hx hg _ (ev x (by simp)));refine kR.of_does (s:=Instr.field t (.agg cs) f) ?_ (fun o ho=>by simp[execOp,ho,e]);obtain⟨v,hv,hr⟩:=hd;refine⟨v,hv,fun w' ha=>?_⟩;simp[Instr.field,run_underlying hu,hf,asAgg,hr w' ha]
   · exact h.elim
 case indexAddr t x i=>
   obtain⟨x',h,hx⟩:=aL (S:=S) (w:=w) h;obtain⟨i',h,hi⟩:=aL (S:=S) (w:=w) h;obtain⟨z,hz,hd⟩:=zR hH h;exact⟨z,hz,fun hg=>kR.of_does (hd hg _ _ (hx hg _ (ev x (by simp))) (hi hg _ (ev i (by simp)))) (fun o ho=>by simp[execOp,ho])⟩
 case index t x i=>
   obtain⟨x',h,hx⟩:=aL (S:=S) (w:=w) h;obtain⟨i',h,hi⟩:=aL (S:=S) (w:=w) h;obtain⟨z,hz,hd⟩:=FW (S:=S) (H:=H) (w:=w) h;exact⟨z,hz,fun hg=>kR.of_does (hd hg _ _ (hx hg _ (ev x (by simp))) (hi hg _ (ev i (by simp)))) (fun o ho=>by simp[execOp,ho])⟩
 case extract x i=>
   obtain⟨x',h,hx⟩:=aL (S:=S) (w:=w) h;split at h
   · rename_i vs
     refine⟨_,h.2,fun hg=>?_⟩;have e:=hx hg _ (ev x (by simp));simp only[rep]at e;obtain⟨l,e,hl⟩:=e;obtain⟨u,h1,h2⟩:=zD vs l i hl (h.1 hg);exact⟨u,h2,fun w' _ o ho=>by simp[execOp,ho,e,Instr.extract,h1]⟩
   · exact h.elim
 case lookup t x i ok=>
   obtain⟨x',h,hx⟩:=aL (S:=S) (w:=w) h;obtain⟨i',h,hi⟩:=aL (S:=S) (w:=w) h;obtain⟨z,hz,hd⟩:=Dq (G:=G) hH h;exact⟨z,hz,fun hg=>kR.of_does (hd hg _ _ (hx hg _ (ev x (by simp))) (hi hg _ (ev i (by simp)))) (fun o ho=>by simp[execOp,ho])⟩
 case makeFunc f first cap=>
   cases f <;> simp only at h <;> try exact h.elim
   rename_i f
   obtain⟨hf,h⟩:=h;subst hf;obtain⟨ys,hz,hys⟩:=lU hF cap.toList (fun x hx=>hb x (by simp[Array.mem_toList_iff.1 hx])) h;refine⟨_,hz,fun hg=>⟨.func (.func f) #[] (cap.map a.eval),?_,fun w' _ o ho=>by simp[execOp,ho,Instr.makeFunc]⟩⟩;simp only[rep];exact⟨cap.toList.map a.eval,by rw[←Array.toList_map],hys hg⟩
theorem xQ{H':aF}{ρ:Env}{a:Act}{t:TypeId}{x:Operand}{lo hi m:Option Operand}(hb:∀y∈(Op.slice t x lo hi m).operands,opB a.tmps.size y=true)(hF:FR S w ρ a)(hH:vF S w H)(h:fY P G ρ H (.slice t x lo hi m) K):
   ∃z,K z∧(gt G→kR P S H' w a (.slice t x lo hi m) z):=by
 have ev:=fun x hx=>cO hF (hb x hx)
 simp only[fY]at h;simp only[Op.operands]at ev hb;cases m with
 | some m=>
   cases lo with
   | some lo=>exact h.elim
   | none=>
     cases hi with
     | none=>exact h.elim
     | some hi=>
       simp only at h;obtain⟨x',h,hx⟩:=aL (S:=S) (w:=w) h;obtain⟨hi',h,hhi⟩:=aL (S:=S) (w:=w) h;obtain⟨m',h,hm⟩:=aL (S:=S) (w:=w) h;obtain⟨z,hz,hd⟩:=AF (S:=S) (w:=w) (H:=H') h;exact⟨z,hz,fun hg=>kR.of_does (hd hg _ _ _ (hx hg _ (ev x (by simp))) (hhi hg _ (ev hi (by simp))) (hm hg _ (ev m (by simp)))) (fun o ho=>by simp[execOp,ho])⟩
 | none=>
   simp only at h;obtain⟨x',h,hx⟩:=aL (S:=S) (w:=w) h;cases lo with
   | some lo=>
     cases hi with
     | some hi=>
       obtain⟨lo',h,hlo⟩:=aL (S:=S) (w:=w) h;obtain⟨hi',h,hhi⟩:=aL (S:=S) (w:=w) h;obtain⟨z,hz,hd⟩:=oY hH h;refine⟨z,hz,fun hg=>kR.of_does (hd hg _ (some (a.eval lo)) (some (a.eval hi)) (hx hg _ (ev x (by simp))) ?_ (by simp) ?_ (by simp)) (fun o ho=>by simp[execOp,ho])⟩
       · intro y hy;injection hy with hy;subst hy;exact⟨_,rfl,hlo hg _ (ev lo (by simp))⟩
       · intro y hy;injection hy with hy;subst hy;exact⟨_,rfl,hhi hg _ (ev hi (by simp))⟩
     | none=>
       obtain⟨lo',h,hlo⟩:=aL (S:=S) (w:=w) h;obtain⟨z,hz,hd⟩:=oY hH h;refine⟨z,hz,fun hg=>kR.of_does (hd hg _ (some (a.eval lo)) none (hx hg _ (ev x (by simp))) ?_ (by simp) (by simp) (by simp)) (fun o ho=>by simp[execOp,ho])⟩;intro y hy;injection hy with hy;subst hy;exact⟨_,rfl,hlo hg _ (ev lo (by simp))⟩
   | none=>
     cases hi with
     | some hi=>
       obtain⟨hi',h,hhi⟩:=aL (S:=S) (w:=w) h;obtain⟨z,hz,hd⟩:=oY hH h;refine⟨z,hz,fun hg=>kR.of_does (hd hg _ none (some (a.eval hi)) (hx hg _ (ev x (by simp))) (by simp) (by simp) ?_ (by simp)) (fun o ho=>by simp[execOp,ho])⟩;intro y hy;injection hy with hy;subst hy;exact⟨_,rfl,hhi hg _ (ev hi (by simp))⟩
     | none=>exact h.elim
end
end Go.Aw
end
section
namespace Go.Aw
def Tl:Array Value:=(Go.Lib.pow10Tab.map fun z=>Value.int .u64 z).toArray
def KB:Array Value:=(Go.Lib.deBruijn64tab.map fun z:Nat=>Value.int .u8 (z:Int)).toArray
def NO:List (Nat×Array Value):=[(1,Tl),(3,KB)]
end Go.Aw
end
section
namespace Go.Aw
open Go.RowKit
def pK(w:World)(g:Nat):Option (Array Value):=match w.heap[g]? with
 | some (.cells cs _ _)=>some cs
 | _=>none
def GQ(S:Sg)(w:World):Prop:=∀t∈NO,S.ro t.1∧pK w t.1=some t.2
theorem GQ.keep{S S':Sg}{w w':World}(h:GQ S w)(hle:S.le S')(hk:eT S w w'):GQ S' w':=fun t ht=>
 ⟨hle.ro _ (h t ht).1,by unfold pK;rw[hk t.1 (h t ht).1];exact(h t ht).2⟩
structure St(S:Sg)(w:World)(H:aF):Prop where
 ro_fz:∀k,S.ro k→S.fz k
 fz_lt:∀k,S.fz k→k<w.heap.size
 rows:vF S w H
 free:∀k r,H k=some r→∀g,blk (S.loc k)=some g→¬S.fz g
 disj:∀k k' r r',H k=some r→H k'=some r'→k≠k'→∀g,blk (S.loc k)=some g→blk (S.loc k')≠some g
 tabs:GQ S w
structure Grow(S:Sg)(w:World)(S':Sg)(w':World):Prop where
 le:S.le S'
 fz:∀k,S.fz k→S'.fz k
 os:w'.os=w.os
 tape:w'.tape=w.tape
 output:w'.output=w.output
 size:w.heap.size≤w'.heap.size
 same:∀k,S.fz k→w'.heap[k]?=w.heap[k]?
 newro:∀k,S'.ro k→S.ro k∨¬S.fz k
theorem Grow.refl(S:Sg)(w:World):Grow S w S w:=⟨S.le_refl,fun _ h=>h,rfl,rfl,rfl,Nat.le_refl _,fun _ _=>rfl,fun _ h=>.inl h⟩
theorem Grow.trans{S S' S'':Sg}{w w' w'':World}(h:Grow S w S' w')(h':Grow S' w' S'' w''):Grow S w S'' w'':=
 ⟨Sg.le_trans h.le h'.le,fun k hk=>h'.fz k (h.fz k hk),h'.os.trans h.os,h'.tape.trans h.tape,h'.output.trans h.output,Nat.le_trans h.size h'.size,
   fun k hk=>(h'.same k (h.fz k hk)).trans (h.same k hk),
   fun k hk=>by rcases h'.newro k hk with h1|h1;exact h.newro k h1;exact .inr fun h2=>h1 (h.fz k h2)⟩
def eC(N:Nat)(H H':aF):Prop:=∀k,k<N→H k=none→H' k=none
theorem eC.refl(N:Nat)(H:aF):eC N H H:=fun _ _ h=>h
theorem eC.trans{N N':Nat}{H H' H'':aF}(h:eC N H H')(h':eC N' H' H'')(hN:N≤N'):eC N H H'':=fun k hk h0=>h' k (Nat.lt_of_lt_of_le hk hN) (h k hk h0)
section
variable{S S':Sg}{w w':World}{H H':aF}
theorem St.kept(hS:St S w H)(hs:∀k,S.fz k→w'.heap[k]?=w.heap[k]?):eT S w w':=fun k hk=>hs k (hS.ro_fz k hk)
theorem Grow.kept(hS:St S w H)(hg:Grow S w S' w'):eT S w w':=hS.kept hg.same
theorem St.fresh(hS:St S w H):H S.N=none:=by
 cases h:H S.N with
 | none=>rfl
 | some r=>exact absurd (hS.rows _ r h).lt (Nat.lt_irrefl _)
theorem RowOK.block_lt{k:Nat}{r:Row}(h:RowOK S w k r){g:Nat}(hg:blk (S.loc k)=some g):g<w.heap.size:=by
 rcases h.own with⟨xs,ho,_⟩|⟨g',ms,h1,h2,_⟩
 · refine(ho.lt g ?_).2
   rcases ho.2 with⟨hv,_⟩|⟨_,_,_,hv,_⟩ <;> (rw[hv]at hg ⊢;exact hg)
 · rw[h1]at hg
   injection hg with hg;subst hg;exact(Array.getElem?_eq_some_iff.1 h2).1
theorem zP(hle:S.le S')(hk:eT S w w'):∀(i:Nat) (es:List (List AV)) (ms:List MapEntry),jN S w i es ms→jN S' w' i es ms
 | _,[],_,h=>h
 | i,cs::r,ms,h=>by
   simp only[jN]at h ⊢;obtain⟨m,t,rfl,h1,h2,h3⟩:=h;exact⟨m,t,rfl,h1,cX hle hk _ _ h2,zP hle hk (i+1) r t h3⟩
theorem RowOK.keep{k:Nat}{r:Row}(h:RowOK S w k r)(hle:S.le S')(hk:eT S w w')(hb:∀g,blk (S.loc k)=some g→w'.heap[g]?=w.heap[g]?):RowOK S' w' k r:=by
 refine⟨Nat.lt_of_lt_of_le h.lt hle.N,by rw[hle.sz k h.lt];exact h.sz,h.pos,h.len,?_⟩;rcases h.own with⟨xs,ho,hr,h1⟩|⟨g,ms,h1,h2,h3⟩
 · refine .inl ?_
   unfold Fx;rw[hle.loc k h.lt];refine⟨xs,⟨ho.1,?_⟩,cX hle hk _ _ hr,h1⟩;rcases ho.2 with h2|⟨g,cap,cur,hv,h3,h4,h5⟩
   · exact .inl h2
   · exact .inr ⟨g,cap,cur,hv,h3,by rw[hb g (by rw[hv];rfl)];exact h4,h5⟩
 · refine .inr ⟨g,ms,?_,?_,zP hle hk 0 _ _ h3.1,h3.2⟩
   · rw[hle.loc k h.lt];exact h1
   · rw[hb g (by rw[h1];rfl)];exact h2
theorem FR.keep{ρ:Env}{a:Act}(h:FR S w ρ a)(hle:S.le S')(hk:eT S w w'):FR S' w' ρ a:=fun t ht=>jO hle hk _ _ (h t ht)
theorem FR.put{ρ:Env}{a:Act}(h:FR S w ρ a){d:Option Nat}{z:AV}{v:Value}(hv:rep S w z v):FR S w (upd ρ d z) (a.put d v):=by
 intro t ht;cases d with
 | none=>exact h t ht
 | some d=>
   simp only[Act.put,upd]at ht ⊢;have hlt:t<a.tmps.size:=by simpa using ht
   by_cases e:t=d
   · subst e
     simpa[Array.getD,hlt]using hv
   · have h1:=h t hlt
     have e':d≠t:=fun h=>e h.symm
     simp only[if_neg e];have:(a.tmps.setIfInBounds d v).getD t undef=a.tmps.getD t undef:=by
       simp[Array.getD_eq_getD_getElem?,Array.getElem?_setIfInBounds,e']
     rw[this];exact h1
def Sg.addRow(S:Sg)(v:Value)(sz:Nat):Sg:={ S with loc:=fun k=>if k=S.N then v else S.loc k,sz:=fun k=>if k=S.N then sz else S.sz k,N:=S.N+1 }
theorem Sg.le_addRow(S:Sg)(v:Value)(sz:Nat):S.le (S.addRow v sz):=
 ⟨fun _ h=>h,Nat.le_succ _,fun k hk=>by simp[Sg.addRow,Nat.ne_of_lt hk],fun k hk=>by simp[Sg.addRow,Nat.ne_of_lt hk]⟩
theorem lM{k:Nat}{r:Option Row}:aJ H k r k=r:=aB H k r
theorem St.newRow(hS:St S w H){e:TypeId}{sz cap:Nat}{es:List (List AV)}{xs:List Value}{cur:Array Value}(hpos:0<sz)(hlen:∀cs∈es,cs.length=sz)
   (hr:aS S w es.flatten xs) (h1:∀u∈xs,u.oneCell'=true) (hn:es.length≤cap) (hcap:cap≤maxLen) (hcur:cur.size=cap*sz) (htake:cur.toList.take (es.length*sz)=xs) {w':World}
   (hw:w'.heap=w.heap.push (.cells cur e)) (hos:w'.os=w.os) (htape:w'.tape=w.tape) (hout:w'.output=w.output):
   St (S.addRow (.slice (some ⟨w.heap.size,0,none⟩) es.length cap) sz) w' (aJ H S.N (some ⟨e,sz,es⟩))∧Grow S w (S.addRow (.slice (some ⟨w.heap.size,0,none⟩) es.length cap) sz) w':=by
 have hsame:∀k,k<w.heap.size→w'.heap[k]?=w.heap[k]?:=fun k hk=>by rw[hw,Array.getElem?_push,if_neg (by omega)]
 have hnew:w'.heap[w.heap.size]?=some (.cells cur e (0,0)):=by rw[hw];simp
 have hsz:w'.heap.size=w.heap.size+1:=by rw[hw];simp
 have hle:=S.le_addRow (.slice (some ⟨w.heap.size,0,none⟩) es.length cap) sz;have hkept:eT S w w':=fun k hk=>hsame k (hS.fz_lt k (hS.ro_fz k hk))
 have hlocN:(S.addRow (.slice (some ⟨w.heap.size,0,none⟩) es.length cap) sz).loc S.N=.slice (some ⟨w.heap.size,0,none⟩) es.length cap:=by simp[Sg.addRow]
 have hloc:∀k,k<S.N→(S.addRow (.slice (some ⟨w.heap.size,0,none⟩) es.length cap) sz).loc k=S.loc k:=hle.loc;have hold:∀k r,k≠S.N→aJ H S.N (some ⟨e,sz,es⟩) k=some r→H k=some r:=fun k r hk h=>by rwa [aD _ _ _ _ hk]at h
 refine⟨⟨hS.ro_fz,fun k hk=>by have:=hS.fz_lt k hk;omega,?_,?_,?_,hS.tabs.keep hle hkept⟩,⟨hle,fun _ h=>h,hos,htape,hout,by omega,fun k hk=>hsame k (hS.fz_lt k hk),fun _ h=>.inl h⟩⟩
 · intro k r hk
   by_cases e0:k=S.N
   · subst e0
     rw[lM]at hk;injection hk with hk;subst hk;refine⟨Nat.lt_succ_self _,by simp[Sg.addRow],hpos,hlen,.inl ⟨xs,⟨?_,.inr ⟨w.heap.size,cap,cur,hlocN,Nat.zero_le _,hnew,hn,hcap,hcur,htake⟩⟩,cX hle hkept _ _ hr,h1⟩⟩;rw[fT _ _ hr,jL es hlen]
   · have hk':=hold k r e0 hk
     exact(hS.rows k r hk').keep hle hkept fun g hg=>hsame g ((hS.rows k r hk').block_lt hg)
 · intro k r hk g hg
   by_cases e0:k=S.N
   · subst e0
     rw[hlocN]at hg;simp only[blk,Option.some.injEq]at hg;subst hg;exact fun h=>Nat.lt_irrefl _ (hS.fz_lt _ h)
   · have hk':=hold k r e0 hk
     rw[hloc k (hS.rows k r hk').lt]at hg;exact hS.free k r hk' g hg
 · intro k k' r r' hk hk' hne g hg hg'
   by_cases e0:k=S.N
   · subst e0
     rw[hlocN]at hg;simp only[blk,Option.some.injEq]at hg;subst hg;have hk2:=hold k' r' (Ne.symm hne) hk';rw[hloc k' (hS.rows k' r' hk2).lt]at hg';exact Nat.lt_irrefl _ ((hS.rows k' r' hk2).block_lt hg')
   · have hk2:=hold k r e0 hk
     rw[hloc k (hS.rows k r hk2).lt]at hg;by_cases e1:k'=S.N
     · subst e1
       rw[hlocN]at hg';simp only[blk,Option.some.injEq]at hg';subst hg';exact Nat.lt_irrefl _ ((hS.rows k r hk2).block_lt hg)
     · have hk3:=hold k' r' e1 hk'
       rw[hloc k' (hS.rows k' r' hk3).lt]at hg';exact hS.disj k k' r r' hk2 hk3 hne g hg hg'
theorem St.newMap(hS:St S w H){w':World}(hw:w'.heap=w.heap.push (.map #[] 0))(hos:w'.os=w.os)(htape:w'.tape=w.tape)(hout:w'.output=w.output):
   St (S.addRow (.map (some w.heap.size)) 2) w' (aJ H S.N (some ⟨0,2,[]⟩))∧Grow S w (S.addRow (.map (some w.heap.size)) 2) w':=by
 have hsame:∀k,k<w.heap.size→w'.heap[k]?=w.heap[k]?:=fun k hk=>by rw[hw,Array.getElem?_push,if_neg (by omega)]
 have hnew:w'.heap[w.heap.size]?=some (.map #[] 0):=by rw[hw];simp
 have hsz:w'.heap.size=w.heap.size+1:=by rw[hw];simp
 have hle:=S.le_addRow (.map (some w.heap.size)) 2;have hkept:eT S w w':=fun k hk=>hsame k (hS.fz_lt k (hS.ro_fz k hk))
 have hlocN:(S.addRow (.map (some w.heap.size)) 2).loc S.N=.map (some w.heap.size):=by simp[Sg.addRow]
 have hold:∀k r,k≠S.N→aJ H S.N (some ⟨0,2,[]⟩) k=some r→H k=some r:=fun k r hk h=>by rwa [aD _ _ _ _ hk]at h
 refine⟨⟨hS.ro_fz,fun k hk=>by have:=hS.fz_lt k hk;omega,?_,?_,?_,hS.tabs.keep hle hkept⟩,⟨hle,fun _ h=>h,hos,htape,hout,by omega,fun k hk=>hsame k (hS.fz_lt k hk),fun _ h=>.inl h⟩⟩
 · intro k r hk
   by_cases e0:k=S.N
   · subst e0
     rw[lM]at hk;injection hk with hk;subst hk;exact⟨Nat.lt_succ_self _,by simp[Sg.addRow],by simp,by simp,.inr ⟨w.heap.size,[],hlocN,hnew,by simp[jN],rfl⟩⟩
   · have hk':=hold k r e0 hk
     exact(hS.rows k r hk').keep hle hkept fun g hg=>hsame g ((hS.rows k r hk').block_lt hg)
 · intro k r hk g hg
   by_cases e0:k=S.N
   · subst e0
     rw[hlocN]at hg;simp only[blk,Option.some.injEq]at hg;subst hg;exact fun h=>Nat.lt_irrefl _ (hS.fz_lt _ h)
   · have hk':=hold k r e0 hk
     rw[hle.loc k (hS.rows k r hk').lt]at hg;exact hS.free k r hk' g hg
 · intro k k' r r' hk hk' hne g hg hg'
   by_cases e0:k=S.N
   · subst e0
     rw[hlocN]at hg;simp only[blk,Option.some.injEq]at hg;subst hg;have hk2:=hold k' r' (Ne.symm hne) hk';rw[hle.loc k' (hS.rows k' r' hk2).lt]at hg';exact Nat.lt_irrefl _ ((hS.rows k' r' hk2).block_lt hg')
   · have hk2:=hold k r e0 hk
     rw[hle.loc k (hS.rows k r hk2).lt]at hg;by_cases e1:k'=S.N
     · subst e1
       rw[hlocN]at hg';simp only[blk,Option.some.injEq]at hg';subst hg';exact Nat.lt_irrefl _ ((hS.rows k r hk2).block_lt hg)
     · have hk3:=hold k' r' e1 hk'
       rw[hle.loc k' (hS.rows k' r' hk3).lt]at hg';exact hS.disj k k' r r' hk2 hk3 hne g hg hg'
theorem St.setMap(hS:St S w H){k g:Nat}{r:Row}(hk:H k=some r)(hl:S.loc k=.map (some g)){ms:List MapEntry}{es:List (List AV)}(he:jN S w 0 es ms)(h2:r.sz=2)(hlt:g<w.heap.size):
   St S { w with heap:=w.heap.setIfInBounds g (.map ms.toArray ms.length) } (aJ H k (some { r with es:=es }))∧Grow S w S { w with heap:=w.heap.setIfInBounds g (.map ms.toArray ms.length) }:=by
 have hR:=hS.rows k r hk;have hgf:¬S.fz g:=hS.free k r hk g (by rw[hl];rfl);have hsame:∀j,j≠g→(w.heap.setIfInBounds g (.map ms.toArray ms.length))[j]?=w.heap[j]?:=fun j hj=>by rw[Array.getElem?_setIfInBounds,if_neg (Ne.symm hj)]
 have hget:(w.heap.setIfInBounds g (.map ms.toArray ms.length))[g]?=some (.map ms.toArray ms.length):=by rw[Array.getElem?_setIfInBounds];simp[hlt]
 have hkept:eT S w { w with heap:=w.heap.setIfInBounds g (.map ms.toArray ms.length) }:=fun j hj=>hsame j (fun e=>hgf (e▸hS.ro_fz j hj))
 have p:∀j r',aJ H k (some { r with es:=es }) j=some r'→∃r'',H j=some r'':=fun j r' hj=>by
   by_cases e:j=k
   · subst e;exact⟨r,hk⟩
   · rw[aD _ _ _ _ e]at hj;exact⟨_,hj⟩
 have elen:∀(i:Nat) (es:List (List AV)) (ms:List MapEntry),jN S w i es ms→∀cs∈es,cs.length=2:=by
   intro i es;induction es generalizing i with
   | nil=>simp
   | cons c es ih=>
     intro ms h cs hcs;simp only[jN]at h;obtain⟨m,t,rfl,_,h4,h5⟩:=h;rcases List.mem_cons.1 hcs with rfl|hcs
     · have:=fT _ _ h4;simpa using this.symm
     · exact ih (i+1) t h5 cs hcs
 refine⟨⟨hS.ro_fz,fun j hj=>by simpa using hS.fz_lt j hj,?_,?_,?_,hS.tabs.keep S.le_refl hkept⟩,⟨S.le_refl,fun _ h=>h,rfl,rfl,rfl,by simp,fun j hj=>hsame j (fun e=>hgf (e▸hj)),fun _ h=>.inl h⟩⟩
 · intro j r' hj
   by_cases e:j=k
   · subst e
     rw[lM]at hj;injection hj with hj;subst hj;exact⟨hR.lt,hR.sz,hR.pos,fun cs hcs=>(elen 0 es ms he cs hcs).trans h2.symm,.inr ⟨g,ms,hl,hget,zP S.le_refl hkept 0 _ _ he,h2⟩⟩
   · rw[aD _ _ _ _ e]at hj
     exact(hS.rows j r' hj).keep S.le_refl hkept fun g' hg'=>hsame g' (fun e'=>hS.disj j k r' r hj hk e g' hg' (by rw[hl,e'];rfl))
 · intro j r' hj g' hg'
   obtain⟨r'',hj'⟩:=p j r' hj;exact hS.free j r'' hj' g' hg'
 · intro j j' r1 r2 hj hj' hne' g' hg' hg2
   obtain⟨q1,hq1⟩:=p j r1 hj;obtain⟨q2,hq2⟩:=p j' r2 hj';exact hS.disj j j' q1 q2 hq1 hq2 hne' g' hg' hg2
theorem St.nilRow(hS:St S w H)(e:TypeId){sz:Nat}(hpos:0<sz):
   St (S.addRow (.slice none 0 0) sz) w (aJ H S.N (some ⟨e,sz,[]⟩))∧Grow S w (S.addRow (.slice none 0 0) sz) w:=by
 have hle:=S.le_addRow (.slice none 0 0) sz;have hlocN:(S.addRow (.slice none 0 0) sz).loc S.N=.slice none 0 0:=by simp[Sg.addRow]
 have hold:∀k r,k≠S.N→aJ H S.N (some ⟨e,sz,[]⟩) k=some r→H k=some r:=fun k r hk h=>by rwa [aD _ _ _ _ hk]at h
 refine⟨⟨hS.ro_fz,hS.fz_lt,?_,?_,?_,hS.tabs.keep hle (eT.refl S w)⟩,⟨hle,fun _ h=>h,rfl,rfl,rfl,Nat.le_refl _,fun _ _=>rfl,fun _ h=>.inl h⟩⟩
 · intro k r hk
   by_cases e0:k=S.N
   · subst e0
     rw[lM]at hk;injection hk with hk;subst hk;refine⟨Nat.lt_succ_self _,by simp[Sg.addRow],hpos,by simp,.inl ⟨[],⟨by simp,.inl ⟨hlocN,rfl⟩⟩,by simp[aS],by simp⟩⟩
   · have hk':=hold k r e0 hk
     exact(hS.rows k r hk').keep hle (eT.refl S w) fun _ _=>rfl
 · intro k r hk g hg
   by_cases e0:k=S.N
   · subst e0
     rw[hlocN]at hg;simp[blk]at hg
   · have hk':=hold k r e0 hk
     rw[hle.loc k (hS.rows k r hk').lt]at hg;exact hS.free k r hk' g hg
 · intro k k' r r' hk hk' hne g hg hg'
   by_cases e0:k=S.N
   · subst e0
     rw[hlocN]at hg;simp[blk]at hg
   · have hk2:=hold k r e0 hk
     rw[hle.loc k (hS.rows k r hk2).lt]at hg;by_cases e1:k'=S.N
     · subst e1
       rw[hlocN]at hg';simp[blk]at hg'
     · have hk3:=hold k' r' e1 hk'
       rw[hle.loc k' (hS.rows k' r' hk3).lt]at hg';exact hS.disj k k' r r' hk2 hk3 hne g hg hg'
def Sg.addRo(S:Sg)(g:Nat):Sg:={ S with ro:=fun k=>S.ro k∨k=g,fz:=fun k=>S.fz k∨k=g }
theorem Sg.le_addRo(S:Sg)(g:Nat):S.le (S.addRo g):=⟨fun _ h=>.inl h,Nat.le_refl _,fun _ _=>rfl,fun _ _=>rfl⟩
theorem St.newRo(hS:St S w H){o:Obj}{w':World}(hw:w'.heap=w.heap.push o)(hos:w'.os=w.os)(htape:w'.tape=w.tape)(hout:w'.output=w.output):
   St (S.addRo w.heap.size) w' H∧Grow S w (S.addRo w.heap.size) w':=by
 have hsame:∀k,k<w.heap.size→w'.heap[k]?=w.heap[k]?:=fun k hk=>by rw[hw,Array.getElem?_push,if_neg (by omega)]
 have hsz:w'.heap.size=w.heap.size+1:=by rw[hw];simp
 have hle:=S.le_addRo w.heap.size;have hkept:eT S w w':=fun k hk=>hsame k (hS.fz_lt k (hS.ro_fz k hk))
 refine⟨⟨fun k hk=>hk.imp (hS.ro_fz k) id,fun k hk=>?_,fun k r hk=>(hS.rows k r hk).keep hle hkept fun g hg=>hsame g ((hS.rows k r hk).block_lt hg),fun k r hk g hg hf=>?_,hS.disj,hS.tabs.keep hle hkept⟩,
   ⟨hle,fun _ h=>.inl h,hos,htape,hout,by omega,fun k hk=>hsame k (hS.fz_lt k hk),fun k hk=>hk.imp id (fun e hf=>by have:=hS.fz_lt k hf;omega)⟩⟩
 · rcases hk with hk|hk
   · have:=hS.fz_lt k hk;omega
   · omega
 · rcases hf with hf|hf
   · exact hS.free k r hk g hg hf
   · have:=(hS.rows k r hk).block_lt hg;omega
theorem RowOK.open{k:Nat}{r:Row}(h:RowOK S w k r){ad0:Option Addr}{n0 c0:Nat}(hs0:S.loc k=.slice ad0 n0 c0)(hne:r.es≠[]):∃g cap cur,S.loc k=.slice (some ⟨g,0,none⟩) r.es.length cap∧w.heap[g]?=some (.cells cur r.e (0,0))∧r.es.length≤cap∧cap≤maxLen∧cur.size=cap*r.sz ∧
   aS S w r.es.flatten (cur.toList.take (r.es.length*r.sz))∧∀u∈cur.toList.take (r.es.length*r.sz),u.oneCell'=true:=by
 obtain⟨xs,ho,hr,h1⟩:=h.sl hs0;rcases ho.2 with⟨_,hn⟩|⟨g,cap,cur,hv,_,h2,h3,h4,h5,h6⟩
 · exact absurd (List.eq_nil_of_length_eq_zero hn) hne
 · subst h6
   exact⟨g,cap,cur,hv,h2,h3,h4,h5,hr,h1⟩
theorem tU:∀(es:List (List AV)) (i:Nat) (cs:List AV) {sz:Nat},(∀c∈es,c.length=sz)→i<es.length→cs.length=sz →
   (es.set i cs).flatten=es.flatten.take (i*sz)++cs++es.flatten.drop (i*sz+sz)
 | [],_,_,_,_,h,_=>by simp at h
 | x::r,0,cs,sz,hl,_,hc=>by
   have hx:=hl x (by simp);simp[←hx]
 | x::r,i+1,cs,sz,hl,hi,hc=>by
   have hx:=hl x (by simp);have ih:=tU r i cs (fun c hc=>hl c (by simp[hc])) (by simpa using hi) hc;simp only[List.set_cons_succ,List.flatten_cons,ih];have e1:(i+1)*sz=x.length+i*sz:=by rw[hx,Nat.add_mul];omega
   rw[e1,Nat.add_assoc,List.take_append,List.drop_append];simp[List.take_of_length_le,List.drop_eq_nil_of_le,Nat.add_assoc]
theorem St.store(hS:St S w H){k:Nat}{r:Row}(hk:H k=some r){i f:Nat}{cs:List AV}{l:List Value}(hi:i<r.es.length)(hf:f+cs.length≤r.sz){ad0:Option Addr}{n0 c0:Nat}(hs0:S.loc k=.slice ad0 n0 c0)
   (hr:aS S w cs l) (h1:∀u∈l,u.oneCell'=true):
   ∃g n c w',S.loc k=.slice (some ⟨g,0,none⟩) n c∧(∀P:Program,(storeCells ⟨g,i*r.sz+f,none⟩ l).run P w=.ok () w') ∧
     St S w' (aJ H k (some { r with es:=r.es.set i (lT (r.es.getD i []) f cs) }))∧Grow S w S w':=by
 have hR:=hS.rows k r hk;have hne:r.es≠[]:=fun e=>by rw[e]at hi;simp at hi
 obtain⟨g,cap,cur,hloc,hg,hnc,hcm,hcs,hrep,hone⟩:=hR.open hs0 hne;have hll:=fT _ _ hr;have hmul:(i+1)*r.sz≤r.es.length*r.sz:=Nat.mul_le_mul_right _ hi;have hmul2:r.es.length*r.sz≤cap*r.sz:=Nat.mul_le_mul_right _ hnc;rw[Nat.add_mul,Nat.one_mul]at hmul;have hst:∀P:Program,_:=fun P=>run_storeCells_at (P:=P) g (i*r.sz+f) r.e l 0 cur w hg (by rw[hll,hcs];omega) h1
 simp only[Nat.add_zero]at hst;refine⟨g,_,cap,_,hloc,hst,?_,?_⟩
 · have hsame:∀j,j≠g→(w.setRow g (List.take (i*r.sz+f) cur.toList++l++List.drop (i*r.sz+f+l.length) cur.toList).toArray).heap[j]?=w.heap[j]?:=fun j hj=>setRow_other w g j _ hj
   have hgf:¬S.fz g:=hS.free k r hk g (by rw[hloc];rfl);have hkept:eT S w (w.setRow g (List.take (i*r.sz+f) cur.toList++l++List.drop (i*r.sz+f+l.length) cur.toList).toArray):=fun j hj=>hsame j (fun e=>hgf (e▸hS.ro_fz j hj))
   have hget:(r.es.getD i []).length=r.sz:=by
     simp only[List.getD,List.getElem?_eq_getElem hi,Option.getD_some];exact hR.len _ (List.getElem_mem hi)
   have hset:(lT (r.es.getD i []) f cs).length=r.sz:=by
     simp only[lT,List.length_append,List.length_take,List.length_drop,hget];omega
   have e2 : List.take (r.es.length * r.sz) (List.take (i * r.sz + f) cur.toList ++ l ++ List.drop (i * r.sz + f + l.length) cur.toList) =
       (cur.toList.take (r.es.length*r.sz)).take (i*r.sz+f)++l++(cur.toList.take (r.es.length*r.sz)).drop (i*r.sz+f+l.length):=by
     rw[List.take_take,Nat.min_eq_left (by omega),List.drop_take];rw[List.take_append,List.take_append];simp only[List.length_append,List.length_take,Array.length_toList];rw[Nat.min_eq_left (by omega:i*r.sz+f≤cur.size)];rw[List.take_of_length_le (l:=List.take (i*r.sz+f) cur.toList) (by simp;omega),List.take_of_length_le (l:=l) (by omega)]
   refine⟨hS.ro_fz,fun j hj=>by simpa using hS.fz_lt j hj,?_,?_,?_,hS.tabs.keep S.le_refl hkept⟩
   · intro j r' hj
     by_cases e:j=k
     · subst e
       rw[lM]at hj;injection hj with hj;subst hj;refine⟨hR.lt,hR.sz,hR.pos,?_,.inl ?_⟩
       · intro c hc
         rcases List.mem_or_eq_of_mem_set hc with hc|rfl
         · exact hR.len c hc
         · exact hset
       · refine⟨(List.take (i*r.sz+f) cur.toList++l++List.drop (i*r.sz+f+l.length) cur.toList).take (r.es.length*r.sz),⟨?_,.inr ⟨g,cap,_,by simpa using hloc,Nat.zero_le _,setRow_heap w g cur _ _ _ hg,by simpa using hnc,hcm,?_,by simp⟩⟩,?_,?_⟩
         · simp only[List.length_set,List.length_take,List.length_append,List.length_drop,Array.length_toList]
           omega
         · simp only[List.size_toArray,List.length_append,List.length_take,List.length_drop,Array.length_toList]
           omega
         · have hx:=(cX (S.le_refl) hkept _ _ hrep)
           have hy:=(cX (S.le_refl) hkept _ _ hr);have e1:(r.es.set i (lT (r.es.getD i []) f cs)).flatten=r.es.flatten.take (i*r.sz+f)++cs++r.es.flatten.drop (i*r.sz+f+l.length):=by
             rw[tU r.es i _ hR.len hi hset];have hflat:r.es.flatten.length=r.es.length*r.sz:=jL _ hR.len;have hmid:r.es.getD i []=(r.es.flatten.drop (i*r.sz)).take r.sz:=by
               have h0:=tU r.es i (r.es.getD i []) hR.len hi hget;have hs:r.es.set i (r.es.getD i [])=r.es:=by
                 simp only[List.getD,List.getElem?_eq_getElem hi,Option.getD_some];exact List.set_getElem_self hi
               rw[hs]at h0;have h3:(r.es.flatten.drop (i*r.sz)).take r.sz=((r.es.flatten.take (i*r.sz)++r.es.getD i []++r.es.flatten.drop (i*r.sz+r.sz)).drop (i*r.sz)).take r.sz:=by rw[←h0]
               rw[h3,List.append_assoc,List.drop_append_of_le_length (by rw[List.length_take];omega)];rw[List.drop_eq_nil_of_le (by rw[List.length_take];omega),List.nil_append,List.take_append_of_le_length (by omega),List.take_of_length_le (by omega)]
             rw[hmid,lT];have a1:List.take (i*r.sz+f) r.es.flatten=r.es.flatten.take (i*r.sz)++((r.es.flatten.drop (i*r.sz)).take r.sz).take f:=by
               rw[List.take_take,Nat.min_eq_left (by omega),List.take_add]
             have a2:r.es.flatten.drop (i*r.sz+f+l.length)=((r.es.flatten.drop (i*r.sz)).take r.sz).drop (f+cs.length)++r.es.flatten.drop (i*r.sz+r.sz):=by
               rw[List.drop_take,List.drop_drop,←hll,←Nat.add_assoc];have:List.drop (i*r.sz+r.sz) r.es.flatten=(List.drop (i*r.sz+f+l.length) r.es.flatten).drop (r.sz-(f+l.length)):=by
                 rw[List.drop_drop];congr 1;omega
               rw[this,List.take_append_drop]
             rw[a1,a2];simp only[List.append_assoc]
           rw[e1];rw[e2];exact cZ _ _ _ _ (cZ _ _ _ _ (pA _ _ _ hx) hy) (rL _ _ _ hx)
         · intro u hu
           rw[e2]at hu;simp only[List.mem_append]at hu;rcases hu with(hu|hu)|hu
           · exact hone u (List.mem_of_mem_take hu)
           · exact h1 u hu
           · exact hone u (List.mem_of_mem_drop hu)
     · rw[aD _ _ _ _ e]at hj
       exact(hS.rows j r' hj).keep S.le_refl hkept fun g' hg'=>hsame g' (fun e'=>hS.disj j k r' r hj hk e g' hg' (by rw[hloc,e'];rfl))
   · intro j r' hj g' hg'
     by_cases e:j=k
     · subst e;exact hS.free j r hk g' hg'
     · rw[aD _ _ _ _ e]at hj;exact hS.free j r' hj g' hg'
   · intro j j' r1 r2 hj hj' hne' g' hg' hg2
     have p:∀j r',aJ H k (some { r with es:=r.es.set i (lT (r.es.getD i []) f cs) }) j=some r'→∃r'',H j=some r'':=fun j r' hj=>by
       by_cases e:j=k
       · subst e;exact⟨r,hk⟩
       · rw[aD _ _ _ _ e]at hj;exact⟨_,hj⟩
     obtain⟨q1,hq1⟩:=p j r1 hj;obtain⟨q2,hq2⟩:=p j' r2 hj';exact hS.disj j j' q1 q2 hq1 hq2 hne' g' hg' hg2
 · refine⟨S.le_refl,fun _ h=>h,rfl,rfl,rfl,by simp,fun j hj=>setRow_other w g j _ (fun e=>hS.free k r hk g (by rw[hloc];rfl) (e▸hj)),fun _ h=>.inl h⟩
end
end Go.Aw
end
