import Derived.StillTail
import Derived.Deep.Quiet
import Derived.Scope
import Derived.Test.YtkfhgjihlbilpaaGreatDoorChecked
import Derived.KernelRfl
import Derived.Test.YtkfhgjihlbilpaaGreatDoorVl02
set_option linter.unusedSimpArgs false
set_option linter.unusedVariables false
set_option linter.defProp false
set_option maxRecDepth 100000
section
namespace Go.Aw
open Go.RowKit
section
variable{P:Program}{n:Nat}{S0:Sg}{w0:World}{H0:aM}{mt:Nat->Bool}{ops:Array Oper}{K:Env->aM->Prop}{K':Act->World->Prop}{Q':Exit->Act->World->Prop}{ρ:Env}{H:aM}{a:Act}{w:World}{o:Oper}{S:Sg}
def Aq{w':World}(h:(execOp a.eval o).run P w=.ok .skip w')(A:K' (a.put o.dst undef) w'):o.wp P a w K' Q':=by unfold Oper.wp;rw[h];exact A
theorem asN{s:Sem Value}{v:Value}{w w':World}(h:s.run P w=.ok v w'):(do pure (Next.value (<-s)):Sem Next).run P w=.ok (.value v) w':=by simp[h]
def Ry{t:TypeId}{l:Option Nat}(O:ldT P t=some l){v:Value}{vs:List Value}(F:v.cells=List.toArray vs)(E:vs.length=l.getD 1){g p:Nat}{w w':World}(A:l=none->∃i,P.info? t=some i/\i.size=1)
  (I:(storeCells ⟨g,p,none⟩ vs).run P w=.ok () w'):(Instr.storeAt t (.pointer (some ⟨g,p,none⟩)) v).run P w=.ok () w':=by
 have T:(sizeOf t).run P w=.ok vs.length w:=by
  cases l with
  | none=>obtain⟨i,J,h1⟩:=A rfl;simp_all[sizeOf,typeInfo]
  | some m=>grind[zO]
 simp_all[Instr.storeAt,Instr.sureAddr,storeVar]
theorem Dh(z:Array Value)(A:0<z.size):∀m,(madeCells z (m*z.size)).toList=(List.replicate m z.toList).flatten
 | 0=>by simp[madeCells]
 | m+1=>by
  have ih:=Dh z A m;rw[show List.replicate (m+1) z.toList=List.replicate m z.toList++[z.toList]from List.replicate_succ',List.flatten_append,<-ih];simp only[madeCells,Array.toList_map,Array.toList_range,Nat.add_mul,Nat.one_mul,List.flatten_cons,List.flatten_nil,List.append_nil];rw[List.range_add,List.map_append]
  congr 1
  apply List.ext_getElem
  all_goals simp_all[Nat.mod_eq_of_lt]
def KT:∀(cs:List AV) (l:List Value) (j:Nat) {x:AV},bR S w cs l->(∀u,l[j]?=some u->rep S w x u)->bR S w (cs.set j x) l
 | [],_,_,_,h,_=>h
 | y::r,l,0,x,h,hx=>by grind[bR]
 | y::r,l,j+1,x,h,hx=>by simp only[bR,List.set_cons_succ]at h |-;obtain⟨u,t,rfl,h1,A⟩:=h;exact⟨u,t,rfl,h1,KT r t j A fun u E=>hx u (by simpa using E)⟩
def tZ:∀(nl:List (Nat×TypeId×Nat)) (z:List AV) (S:Sg) (H:aM) (vs:List Value) {K:List AV->aM->Prop},(∀x∈nl,vs[x.1]?=some (.slice none 0 0)/\0<x.2.2)->St S w H->bR S w z vs->mD nl z H K ->
  ∃A S' H',K A H'/\St S' w H'/\Grow S w S' w/\hY S.N H H'/\bR S' w A vs/\A.length=z.length
 | [],z,S,H,vs,K,_,hS,hr,h=>⟨z,S,H,h,hS,Grow.refl S w,hY.refl _ _,hr,rfl⟩
 | x::r,z,S,H,vs,K,hn,hS,hr,h=>by obtain⟨h0,E⟩:=hn x (by simp);have q:=hS.nilRow x.2.1 E;have F:=KT z vs x.1 (x:=.os S.N) (fQ q.2.le (q.2.kept hS) _ _ hr) (fun u Y=>by simp_all[rep,Sg.addRow]);obtain⟨A,S',H',h1,T,J,O,U,X⟩:=tZ r _ _ _ vs (fun y I=>hn y (by simp[I])) q.1 F (h S.N hS.fresh);exact⟨A,S',H',h1,T,q.2.trans J,(sK hS).trans O q.2.le.N,U,by simpa using X⟩
def ER{P:Program}{t:TypeId}{nl:List (Nat×TypeId×Nat)}(h:uG P t=some nl){i:TypeInfo}{v:Value}(E:P.info? t=some i)(I:i.zero=some v):∀x∈nl,v.cells.toList[x.1]?=some (.slice none 0 0)/\0<x.2.2:=by
 unfold uG at h;rw[E]at h;simp only[I]at h;split at h
 ·rename_i A;injection h with h;subst h;intro x F;have:=List.all_eq_true.1 A x F;simp only[Bool.and_eq_true,decide_eq_true_eq]at this
  grind[anJ]
 grind
def Uz{t:TypeId}{z:List AV}(X:St S w H)(hF:FR S w ρ a)(hG:Grow S0 w0 S w)(hN:hY S0.N H0 H)(hd:a.defers=[])(hn:a.tmps.size=n)(ho:o.op=.alloc t)(hz:dX P t=some z)
  (hw:Region.wanted o (yielded ops a.tmps)=true) (hK:∀F H' Y w',K F H'->Rel n S0 w0 H0 F H' Y w'->K' Y w') {nl:List (Nat×TypeId×Nat)} (J:uG P t=some nl)
  (h:mD nl z H fun z H=>sO H ⟨t,z.length,[z]⟩ fun k H'=>K (upd ρ o.dst (.op k 0 0)) H'):Cf P ops o a w K' Q':=by
 obtain⟨i,v,hi,O,rfl,aa,ab,h1⟩:=qV hz;have Z:(Instr.alloc t true (.tuple #[])).run P w=.ok (.pointer (some ⟨w.heap.size,0,none⟩)) (w.alloc (.cells v.cells t)):=by simp_all[Instr.alloc,zeroValue,typeInfo,newVar,newRow]
 have T:∀x∈nl,v.cells.toList[x.1]?=some (.slice none 0 0)/\0<x.2.2:=ER J hi O;obtain⟨z',S',H',q0,A,E,I,U,ac⟩:=tZ nl _ S H v.cells.toList T X (pF _) h;obtain⟨S2,q1,q2,q3⟩:=Ia (t:=t) (cs:=z') (l:=v.cells.toList) A (by grind) U h1;refine iD hw (fG (v:=.pointer (some ⟨w.heap.size,0,none⟩)) (w':=w.alloc (.cells v.cells t)) (by simp_all[execOp]) (hK _ _ _ _ (q0 S'.N A.fresh) (Rel.step A (hF.keep E.le (E.kept X)) (hG.trans E) (hN.trans I hG.le.N) hd hn (by omega) (by omega) (sK A) (by omega))))
def Ir{t:TypeId}{x y:Operand}{x':AV}{cs:List AV}{l:List Value}(T:St S w H)(hF:FR S w ρ a)(hG:Grow S0 w0 S w)(hN:hY S0.N H0 H)(hd:a.defers=[])(hn:a.tmps.size=n)(ho:o.op=.store t x y)
  (hw:Region.wanted o (yielded ops a.tmps)=true) (hK:∀J H' X w',K J H'->Rel n S0 w0 H0 J H' X w'->K' X w') (Z:rep S w x' (a.eval x)) (e1:(a.eval y).cells=l.toArray) (e2:bR S w cs l) (e3:∀u∈l,u.oneCell'=true)
  (O:Ds P o t x' cs ρ H K):Cf P ops o a w K' Q':=by
 unfold Ds at O;split at O
 ·rename_i k i f;split at O
  ·rename_i r ld Y U;obtain⟨⟨c1,c2,c3,c4⟩,h5⟩:=O;simp only[rep]at Z;obtain⟨_,g,m,c,E,ep⟩:=Z;obtain⟨g',n',c',w',A,I,q1,q2⟩:=T.store Y c1 c3 E e2 e3;rw[E]at A;injection A with F i2 i3;injection F with F;injection F with F;subst F;rw[<-(T.rows k r Y).sz]at ep;have aa:=Ry (P:=P) U e1 (by grind[jE]) (by omega) (I P);refine iD hw (Aq (w':=w') ?_ (hK _ _ _ _ h5 (Rel.step T hF hG hN hd hn q1 q2 ?_ (by grind[rep]))))
   ·simp_all[execOp]
   ·intro j _ h0
    grind[aF]
  grind
 grind
def ZU:∀(x:List AV) (l:List Value) (j:Nat) (v:Value),bR S w x l->x[j]?=some (.v v)->l[j]?=some v
 | [],_,_,_,_,h=>by grind
 | a::r,l,0,v,h,hx=>by grind[bR,rep]
 | a::r,l,j+1,v,h,hx=>by simp only[bR]at h;obtain⟨u,t,rfl,h1,A⟩:=h;simpa using ZU r t j v A (by simpa using hx)
def GD{t:TypeId}{x y:Operand}{x':AV}{cs:List AV}{l:List Value}(J:St S w H)(Z:FR S w ρ a)(Y:Grow S0 w0 S w)(hN:hY S0.N H0 H)(hd:a.defers=[])(hn:a.tmps.size=n)(ho:o.op=.store t x y)
  (hw:Region.wanted o (yielded ops a.tmps)=true) (hK:∀F H' a' w',K F H'->Rel n S0 w0 H0 F H' a' w'->K' a' w') (ex:rep S w x' (a.eval x)) (e1:(a.eval y).cells=l.toArray) (O:bR S w cs l) (e3:∀u∈l,u.oneCell'=true)
  (I:yL P o t x' cs ρ H K):Cf P ops o a w K' Q':=by
 rcases I with I|⟨_,nl,E,I⟩
 ·exact Ir J Z Y hN hd hn ho hw hK ex e1 O e3 I
 ·obtain⟨z',S',H',q0,T,A,U,X,aa⟩:=tZ nl _ S H l (fun x hx=>⟨ZU _ _ _ _ O (E x hx).1,(E x hx).2⟩) J O I;exact Ir T (Z.keep A.le (A.kept J)) (Y.trans A) (hN.trans U Y.le.N) hd hn ho hw hK (oY A.le (A.kept J) _ _ ex) e1 X e3 q0
def NH{w:World}:∀(nl:List (Nat×TypeId×Nat)) (z:List AV) (vs:List Value),(∀x∈nl,vs[x.1]?=some (.slice none 0 0))->bR S w z vs->bR S w (Ni nl z) vs
 | [],z,vs,_,h=>h
 | x::r,z,vs,hn,h=>NH r _ vs (fun y A=>hn y (by grind)) (KT z vs x.1 h fun u E=>by grind[rep])
def IP{o:Oper}{w1:World}{t:TypeId}{A:Array (Nat×Operand)}(hF:FR S w1 ρ a)(hb:∀x∈o.op.operands,opB a.tmps.size x=true)(ho:o.op=.build t A)
  (h:DS P o t A.toList ρ H K):∃z,K (upd ρ o.dst z) H/\∃v,rep S w1 z v/\∀w,(execOp a.eval o).run P w=.ok (.value v) w:=by
 unfold DS at h;obtain⟨ps,h,O⟩:=rR hF A.toList (fun p hp=>hb p.2 (by grind[Op.operands])) h;split at h
 ·rename_i z pl nl Y I J;obtain⟨Z,e2⟩:=O trivial;obtain⟨i,v,T,E,rfl,U,aa,h1⟩:=qV Y;split at h
  ·rename_i cs F;obtain⟨A',f1,f2,f3⟩:=Ak (S:=S) (w:=w1) T E h1 (NH nl _ _ (fun x X=>(ER J T E x X).1) (pF _)) I F Z (fun j i c hj=>e2 j i c hj);refine⟨_,h,.agg A',?_,fun w=>?_⟩
   ·grind[rep]
   simp_all[execOp,run_build]
  grind
 grind
def QH{t:TypeId}{A:Array (Nat×Operand)}(I:St S w H)(F:FR S w ρ a)(hG:Grow S0 w0 S w)(hN:hY S0.N H0 H)(hd:a.defers=[])(Y:a.tmps.size=n)(X:o.op=.build t A)(hb:∀x∈o.op.operands,opB a.tmps.size x=true)
  (hw:Region.wanted o (yielded ops a.tmps)=true) (O:∀E H' J w',K E H'->Rel n S0 w0 H0 E H' J w'->K' J w') (h:DS P o t A.toList ρ H K):Cf P ops o a w K' Q':=by
 obtain⟨z,U,v,Z,T⟩:=IP (S:=S) (w1:=w) F hb X h;exact iD hw (fG (v:=v) (w':=w) (T w) (O _ _ _ _ U (Rel.step I F hG hN hd Y I (Grow.refl S w) (hY.refl _ _) Z)))
def Rf{t:TypeId}{A:Array (Nat×Operand)}(U:St S w H)(hF:FR S w ρ a)(hG:Grow S0 w0 S w)(hN:hY S0.N H0 H)(hd:a.defers=[])(hn:a.tmps.size=n)(ho:o.op=.build t A)(hb:∀x∈o.op.operands,opB a.tmps.size x=true)
  (hw:Region.wanted o (yielded ops a.tmps)=true) (hK:∀J H' a' w',K J H'->Rel n S0 w0 H0 J H' a' w'->K' a' w') (h:FF P o t A.toList ρ H K):Cf P ops o a w K' Q':=by
 unfold FF at h;obtain⟨ps,h,Z⟩:=rR hF A.toList (fun p hp=>hb p.2 (by grind[Op.operands])) h;split at h
 ·rename_i z pl nl hz X Y;obtain⟨e1,e2⟩:=Z trivial;obtain⟨i,v,hi,I,rfl,ab,ac,h1⟩:=qV hz;obtain⟨z',S',H',q0,F,E,T,aa,ae⟩:=tZ nl _ S H v.cells.toList (ER Y hi I) U (pF _) h;split at q0
  ·rename_i cs O;obtain⟨A',f1,f2,f3⟩:=Ak (S:=S') (w:=w) (z:=z') hi I h1 aa X O e1 (fun j i c hj=>by obtain⟨u,l,g1,g2,g3,g4⟩:=e2 j i c hj;exact⟨u,l,g1,g2,fQ E.le (E.kept U) _ _ g3,g4⟩);refine iD hw (fG (v:=.agg A') (w':=w) ?_ (hK _ _ _ _ q0 (Rel.step F (hF.keep E.le (E.kept U)) (hG.trans E) (hN.trans T hG.le.N) hd hn F (Grow.refl S' w) (hY.refl _ _) ?_)))
   ·simp_all[execOp,run_build]
   grind[rep]
  grind
 grind
def Ju{t:TypeId}{x:Operand}{K2:AV->Prop}(A:St S w H)(Y:FR S w ρ a)(Z:Grow S0 w0 S w)(hN:hY S0.N H0 H)(hd:a.defers=[])(hn:a.tmps.size=n)(ho:o.op=.store t x (.const (.slice none 0 0)))(hb:∀x∈o.op.operands,opB a.tmps.size x=true)
   (hw:Region.wanted o (yielded ops a.tmps)=true) (hK:∀E H' U w',K E H'->Rel n S0 w0 H0 E H' U w'->K' U w')
   (h : cE none (aev ρ x) fun y => match cK P t with
       | some (e,sz,_)=>sO H ⟨e,sz,[]⟩ fun k H=>yL P o t y [.os k] ρ H K
       | none=>False):Cf P ops o a w K' Q':=by
 obtain⟨x',X,T⟩:=bF (S:=S) (w:=w) h;have J:opB a.tmps.size x=true:=hb x (by grind[Op.operands]);have ex:=T trivial _ (dM Y J);split at X
 . rename_i e sz O he;obtain⟨i,z,hu,hi,aa,_,F,_⟩:=iJ he;have q:=A.nilRow e F;have h3:=X S.N A.fresh;have I:=sK A (r:=some ⟨e,sz,[]⟩);refine GD q.1 (Y.keep q.2.le (q.2.kept A)) (Z.trans q.2) (hN.trans I Z.le.N) hd hn ho hw hK (oY q.2.le (q.2.kept A) _ _ ex) (l:=[.slice none 0 0]) (by rfl) ?_ (by simp[Value.oneCell']) h3;simp[bR,rep,Sg.addRow]
 grind
def Ra{x:Operand}(I:St S w H)(hF:FR S w ρ a)(hG:Grow S0 w0 S w)(hN:hY S0.N H0 H)(hd:a.defers=[])(hn:a.tmps.size=n)(ho:o.op=.move x)(hb:∀x∈o.op.operands,opB a.tmps.size x=true)
  (hw:Region.wanted o (yielded ops a.tmps)=true) (hK:∀T H' a' w',K T H'->Rel n S0 w0 H0 T H' a' w'->K' a' w') (h:DT x ρ o.dst H K):Cf P ops o a w K' Q':=by
 unfold DT at h;split at h
 ·rename_i t;split at h
  ·rename_i j hj;split at h
   ·rename_i r hr;have ae:=hb (.tmp t) (by grind[Op.operands]);have hv:rep S w (ρ t) (a.eval (.tmp t)):=dM (x:=.tmp t) hF ae;rw[hj]at hv
    let Hf:aM:=fun k=>if k=j then H k else none
    let Hr:aM:=fun k=>if k=j then none else H k
    have J:∀k r',Hf k=some r'->k=j/\H k=some r':=fun k r' A=>by grind
    have F:∀k r',Hr k=some r'->k≠j/\H k=some r':=fun k r' A=>by grind
    have U:St S w Hf:=I.drop fun k r' A=>(J k r' A).2
    have Y:rep (S.froze Hf) w (.sl r.es) (a.eval (.tmp t)):=Conv.rep U (Conv.row j r r.es (by grind) (ConvE.refl _)) hv;have O:St (S.froze Hf) w Hr:=by
     refine⟨?_,?_,fun k r' A=>(I.rows k r' (F k r' A).2).keep (S.le_froze Hf) (iT.refl S w) (fun _ _=>rfl),?_,fun k k' r1 r2 A Z aa g E X=>I.disj k k' r1 r2 (F k r1 A).2 (F k' r2 Z).2 aa g E X,I.tabs.keep (S.le_froze Hf) (iT.refl S w)⟩
     ·rintro g (E|E)
      ·exact .inl (I.ι g E)
      ·exact .inr E
     ·rintro g (E|⟨k,r',A,E⟩)
      ·exact I.l9 g E
      ·exact(I.rows k r' (J k r' A).2).block_lt E
     ·rintro k r' A g E (h1|⟨i,r2,hi,h2⟩)
      ·exact I.free k r' (F k r' A).2 g E h1
      ·exact I.disj k i r' r2 (F k r' A).2 (J i r2 hi).2 (fun e=>(F k r' A).1 (e.trans (J i r2 hi).1)) g E h2
    have E:Grow S w (S.froze Hf) w:=by
     refine⟨S.le_froze Hf,fun k A=>.inl A,rfl,rfl,rfl,Nat.le_refl _,fun _ _=>rfl,?_⟩;rintro g (E|⟨k,r',A,E⟩)
     ·grind
     ·exact .inr (I.free k r' (J k r' A).2 g E)
    have ac:FR (S.froze Hf) w (upd ρ (some t) (.sl r.es)) a:=fun t' ab=>by
     by_cases e:t'=t
     ·simp_all[upd,Act.eval]
     ·simp only[upd,if_neg e];exact(hF.keep (S.le_froze Hf) (iT.refl S w)) t' ab
    have A:=h Hr (by grind) (fun k A=>by grind);refine iD hw (fG (v:=a.eval (.tmp t)) (w':=w) ?_ (hK _ _ _ _ A (Rel.step O ac (hG.trans E) (hN.trans (fun k _ h0=>by grind) hG.le.N) hd hn O (Grow.refl _ _) (hY.refl _ _) Y)));simp[execOp,ho]
   grind
  grind
 grind
def L0{l:List Nat}:∀{xs A:List AV},LD l H xs A->ConvL (fun k=>if k∈l then H k else none) xs A
 | [],[],_=>.nil
 | x::xs,y::A,h=>by
  simp only[LD]at h;obtain⟨h1,E⟩:=h;refine .cons _ _ _ _ ?_ (L0 E);rcases h1 with rfl|⟨j,r,I,rfl,F,rfl⟩
  ·exact .refl _
  ·exact .row j r r.es (by grind) (ConvE.refl _)
 | [],_::_,h=>by grind[LD]
 | _::_,[],h=>by grind[LD]
def aoT{x y:AV}{d:Option Nat}{l:List Nat}{X:Act}{w':World}(hR:Rel n S0 w0 H0 (upd ρ d x) H X w')(hc:Conv (fun k=>if k∈l then H k else none) x y):Rel n S0 w0 H0 (upd ρ d y) (fun k=>if k∈l then none else H k) X w':=by
 obtain⟨S,I,hF,hG,hN,hd,hn⟩:=hR
 let Hf:aM:=fun k=>if k∈l then H k else none
 let Hr:aM:=fun k=>if k∈l then none else H k
 have J:∀k r',Hf k=some r'->k∈l/\H k=some r':=fun k r' E=>by grind
 have F:∀k r',Hr k=some r'->¬k∈l/\H k=some r':=fun k r' E=>by grind
 have ab:St S w' Hf:=I.drop fun k r' E=>(J k r' E).2
 have T:St (S.froze Hf) w' Hr:=by
  refine⟨?_,?_,fun k r' E=>(I.rows k r' (F k r' E).2).keep (S.le_froze Hf) (iT.refl S w') (fun _ _=>rfl),?_,fun k k' r1 r2 E Y Z g A U=>I.disj k k' r1 r2 (F k r1 E).2 (F k' r2 Y).2 Z g A U,I.tabs.keep (S.le_froze Hf) (iT.refl S w')⟩
  ·rintro g (A|A)
   ·exact .inl (I.ι g A)
   ·exact .inr A
  ·rintro g (A|⟨k,r',E,A⟩)
   ·exact I.l9 g A
   ·exact(I.rows k r' (J k r' E).2).block_lt A
  ·rintro k r' E g A (h1|⟨i,r2,hi,h2⟩)
   ·exact I.free k r' (F k r' E).2 g A h1
   ·exact I.disj k i r' r2 (F k r' E).2 (J i r2 hi).2 (fun e=>(F k r' E).1 (e▸(J i r2 hi).1)) g A h2
 have A:Grow S w' (S.froze Hf) w':=by
  refine⟨S.le_froze Hf,fun k E=>.inl E,rfl,rfl,rfl,Nat.le_refl _,fun _ _=>rfl,?_⟩;rintro g (A|⟨k,r',E,A⟩)
  ·grind
  ·exact .inr (I.free k r' (J k r' E).2 g A)
 have aa:FR (S.froze Hf) w' (upd ρ d y) X:=fun t' O=>by
  have h1:=hF t' O;cases d with
  | none=>exact hF.keep (S.le_froze Hf) (iT.refl S w') t' O
  | some d=>
   by_cases e:t'=d
   ·subst e;simp only[upd,if_true]at h1 |-
    grind[Conv.rep]
   ·simp only[upd,if_neg e]at h1 |-;exact oY (S.le_froze Hf) (iT.refl S w') _ _ h1
 exact⟨S.froze Hf,T,aa,hG.trans A,hN.trans (fun k _ h0=>by grind) hG.le.N,hd,hn⟩
theorem Wz{G:Option Bool}{l:Option Nat}{y:AV}{A K2:AV->Prop}(E:∀z,A z->K2 z)(h:sM G H l y A):sM G H l y K2:=by unfold sM at h |-;cases y<;>grind
theorem adS{G:Option Bool}{x:AV}{A K2:AV->Prop}(E:∀z,A z->K2 z)(h:cE G x A):cE G x K2:=by
 unfold cE at h |-
 grind
def Jm{G:Option Bool}{t:TypeId}{x:Operand}{A K2:AV->Prop}(F:∀z,A z->K2 z)(h:jV P G ρ H (.load t x) A):jV P G ρ H (.load t x) K2:=by simp only[jV]at h |-;cases E:ldT P t<;>grind[adS,Wz]
def YJ{t:TypeId}{x:Operand}(X:St S w H)(J:FR S w ρ a)(Z:Grow S0 w0 S w)(hN:hY S0.N H0 H)(hd:a.defers=[])(Y:a.tmps.size=n)(U:o.op=.load t x)(hb:∀x∈o.op.operands,opB n x=true)
  (I:Region.wanted o (yielded ops a.tmps)=true↔gt none) (O:∀A H' F w',K A H'->Rel n S0 w0 H0 A H' F w'->K' F w') (h:jV P none ρ H (.load t x) fun x=>Lu x ρ o.dst H K):Cf P ops o a w K' Q':=by
 refine wB (K:=fun A H'=>∃z,A=upd ρ o.dst z/\H'=H/\Lu z ρ o.dst H K) X J Z hN hd Y hb I ?_ (by rw[U];exact Jm (fun z E=>⟨z,rfl,rfl,E⟩) h);rintro A H' F w' ⟨z,rfl,rfl,E⟩ T;unfold Lu at E;split at E
 ·obtain⟨l,ys,ht,hk⟩:=E;exact O _ _ _ _ (hk (fun k=>if k∈l then none else H' k) (fun k e=>if_pos e) (fun k e=>if_neg e)) (aoT T (.agg _ _ (L0 ht)))
 grind
def Jr{t:TypeId}{l c:Operand}(Y:St S w H)(hF:FR S w ρ a)(hG:Grow S0 w0 S w)(hN:hY S0.N H0 H)(hd:a.defers=[])(hn:a.tmps.size=n)(ho:o.op=.makeSlice t l c)(Z:∀x∈o.op.operands,opB a.tmps.size x=true)
  (hw:Region.wanted o (yielded ops a.tmps)=true) (hK:∀T H' a' w',K T H'->Rel n S0 w0 H0 T H' a' w'->K' a' w')
  (h:cE none (aev ρ l) fun l=>cE none (aev ρ c) fun c=>wW P o t l c ρ H K):Cf P ops o a w K' Q':=by
 rw[ho]at Z;simp only[Op.operands]at Z;obtain⟨l',h2,hl⟩:=bF (S:=S) (w:=w) h;obtain⟨c',O,hc⟩:=bF (S:=S) (w:=w) h2;have el:=hl trivial _ (dM hF (Z l (by simp)));have ec:=hc trivial _ (dM hF (Z c (by simp)));unfold wW at O;split at O
 ·rename_i kl x kc y;simp only[rep]at el ec;split at O
  ·rename_i e sz A he;split at O
   ·rename_i z hz;obtain⟨⟨⟨p1,p2⟩,p3⟩,h4⟩:=O;obtain⟨i,v,hi,aa,rfl,ah,aj,h1⟩:=qV hz;obtain⟨i',z',ac,E,U,af,X,ae,ak,al⟩:=iJ he;rw[hi]at E;injection E with E;subst E;have F:v.cells.size=sz:=by omega
    have ai:y<=(A:Int)*y:=by have:(1:Int)*y<=(A:Int)*y:=Int.mul_le_mul_of_nonneg_right (by omega) (by omega);omega
    have J:=run_make (P:=P) w t e i v ac hi aa kl kc x y p1 p2 (by grind) (by omega);have hm:(madeCells v.cells (y.toNat*sz)).toList=(List.replicate y.toNat v.cells.toList).flatten:=by grind[Dh]
    have ab:(madeCells v.cells (y.toNat*sz)).toList.take (x.toNat*sz)=(List.replicate x.toNat v.cells.toList).flatten:=by
     rw[hm,<-F];have:y.toNat=x.toNat+(y.toNat-x.toNat):=by omega
     rw[this,<-List.replicate_append_replicate,List.flatten_append,List.take_append_of_le_length (by simp),List.take_of_length_le (by simp)]
    have I:∀m,bR S w (List.replicate m (v.cells.toList.map uT)).flatten (List.replicate m v.cells.toList).flatten:=by intro m;induction m<;>grind[bR,fZ,pF]
    rw[U]at J;have q:=Y.newRow (e:=e) (sz:=sz) (cap:=y.toNat) (es:=List.replicate x.toNat (v.cells.toList.map uT)) (xs:=(List.replicate x.toNat v.cells.toList).flatten) (cur:=madeCells v.cells (y.toNat*sz)) X
     (fun cs ag=>by grind) (I _) (fun u hu=>by simp_all;grind) (by grind) (by grind[maxLen]) (size_madeCells _ _) (by grind) (w':=w.alloc (.cells (madeCells v.cells (y.toNat*sz)) e)) rfl rfl rfl rfl
    refine iD hw (fG (v:=.slice (some ⟨w.heap.size,0,none⟩) x.toNat y.toNat) (w':=w.alloc (.cells (madeCells v.cells (y.toNat*sz)) e)) ?_ (hK _ _ _ _ (h4 S.N Y.fresh) (Rel.step Y hF hG hN hd hn q.1 q.2 (sK Y) ?_)))
    all_goals simp_all[execOp,rep,Sg.addRow]
   grind
  grind
 grind
def Mg{A new:Value}(h:∀n,Instr.sameBits (n+1) A new=true)(w:World):(Instr.keyThatStays A new).run P w=.ok new w:=by simp_all[Instr.keyThatStays]
def yX{ms:List MapEntry}{i:Nat}{m:MapEntry}(A:ms[i]?=some m)(f:MapEntry->MapEntry):ms.modify i f=ms.set i (f m):=by
 apply List.ext_getElem?
 grind
def HW{t:TypeId}{m x:AV}{F:Nat->Row->TypeId×TypeId->Option Nat->Prop}(X:St S w H){u v:Value}(O:rep S w m u)(Y:rep S w x v)(h:Ij P H t m x F):
  ∃j r A E g ms,F j r A E/\H j=some r/\u=.map (some g)/\S.loc j=.map (some g)/\w.heap[g]?=some (.map (List.toArray ms) ms.length)/\pH S w 0 r.es ms/\r.sz=2/\P.underlying t=some (.map A.1 A.2)/\(∀e (w':World),(Instr.checkKey e 10000 A.1 v).run P w'=.ok () w') /\
   ((E=none/\∀w':World,(Instr.findKey A.1 v ms).run P w'=.ok none w') \/
   ∃i m cs,E=some i/\ms[i]?=some m/\r.es[i]?=some cs/\(∀w':World,(Instr.findKey A.1 v ms).run P w'=.ok (some (i,m.val)) w')/\m.key=v/\(∀n,Instr.sameBits (n+1) m.key v=true)/\m.born=i/\bR S w cs [m.key,m.val]):=by
 unfold Ij at h;split at h
 ·rename_i j;split at h
  ·rename_i r A hj Z;split at h
   ·rename_i E T;obtain⟨hp,h⟩:=h;simp only[rep]at O;obtain⟨_,rfl,g0,I⟩:=O;have J:=(X.rows j r hj).mp I;obtain⟨g,ms,h1,h2,h3,h4,h5,h6⟩:=UG Z hp T J Y;obtain⟨_,_,_,_,_,U⟩:=J
    grind
   grind
  grind
 grind
def Ar{j:Nat}{r:Row}{q:Option Row}(A:H j=some r):hY S.N H (aI H j q):=fun k _ h0=>by grind[aF]
def Jl{t:TypeId}{m x v:Operand}(J:St S w H)(U:FR S w ρ a)(hG:Grow S0 w0 S w)(hN:hY S0.N H0 H)(hd:a.defers=[])(hn:a.tmps.size=n)(ho:o.op=.mapUpdate t m x v)(T:∀x∈o.op.operands,opB a.tmps.size x=true)
  (hw:Region.wanted o (yielded ops a.tmps)=true) (hK:∀Z H' a' w',K Z H'->Rel n S0 w0 H0 Z H' a' w'->K' a' w')
  (h:cE none (aev ρ m) fun m=>cE none (aev ρ x) fun x=>cE none (aev ρ v) fun v=>oZ P o t m x v ρ H K):Cf P ops o a w K' Q':=by
 rw[ho]at T;simp only[Op.operands]at T;obtain⟨m',h,hm⟩:=bF (S:=S) (w:=w) h;obtain⟨x',h,hx⟩:=bF (S:=S) (w:=w) h;obtain⟨v',h,hv⟩:=bF (S:=S) (w:=w) h;have em:=hm trivial _ (dM U (T m (by simp)));have ex:=hx trivial _ (dM U (T x (by simp)));have ae:=hv trivial _ (dM U (T v (by simp)));unfold oZ at h;obtain⟨j,r,kt,oi,g,ms,hk,hj,e0,hl,O,E,I,Y,aa,F⟩:=HW J em ex h;have X:g<w.heap.size:=(Array.getElem?_eq_some_iff.1 O).1;rcases F with⟨rfl,ab⟩|⟨i,me,cs,rfl,q1,q2,q3,q4,q5,q6,q7⟩
 ·have A:=Ga (m:=⟨a.eval x,a.eval v,ms.length⟩) (cs:=[x',v']) 0 _ _ E (by grind[Dp]) (by grind[bR]);have q:=J.setMap hj hl A I X;refine iD hw (Aq (w':={ w with heap:=w.heap.setIfInBounds g (.map (ms++[(⟨a.eval x,a.eval v,ms.length⟩:MapEntry)]).toArray (ms++[(⟨a.eval x,a.eval v,ms.length⟩:MapEntry)]).length) }) ?_ (hK _ _ _ _ hk (Rel.step J U hG hN hd hn q.1 q.2 (Ar hj) (by grind[rep]))));simp[execOp,ho,e0,Instr.mapUpdate,run_underlying Y,MapKept.run_getObj_map O,aa,ab,MapKept.run_setObj_map _ O]
 ·have A:=F5 (m:=⟨a.eval x,a.eval v,i⟩) (cs:=[x',v']) 0 _ _ i E (by simp) (by grind[bR]);have q:=J.setMap hj hl A I X;refine iD hw (Aq (w':={ w with heap:=w.heap.setIfInBounds g (.map (ms.set i ⟨a.eval x,a.eval v,i⟩).toArray (ms.set i (⟨a.eval x,a.eval v,i⟩:MapEntry)).length) }) ?_ (hK _ _ _ _ hk (Rel.step J U hG hN hd hn q.1 q.2 (Ar hj) (by grind[rep]))));have ac:=Mg (P:=P) q5;simp[execOp,ho,e0,Instr.mapUpdate,run_underlying Y,MapKept.run_getObj_map O,aa,q3,q1,ac,MapKept.run_setObj_map _ O,yX q1,q6]
def Pv{t:TypeId}{m x v:Operand}(J:St S w H)(U:FR S w ρ a)(hG:Grow S0 w0 S w)(hN:hY S0.N H0 H)(hd:a.defers=[])(hn:a.tmps.size=n)(ho:o.op=.insert t m x v)(T:∀x∈o.op.operands,opB a.tmps.size x=true)
  (hw:Region.wanted o (yielded ops a.tmps)=true) (hK:∀Z H' a' w',K Z H'->Rel n S0 w0 H0 Z H' a' w'->K' a' w')
  (h:cE none (aev ρ m) fun m=>cE none (aev ρ x) fun x=>cE none (aev ρ v) fun v=>oZ P o t m x v ρ H K):Cf P ops o a w K' Q':=by
 rw[ho]at T;simp only[Op.operands]at T;obtain⟨m',h,hm⟩:=bF (S:=S) (w:=w) h;obtain⟨x',h,hx⟩:=bF (S:=S) (w:=w) h;obtain⟨v',h,hv⟩:=bF (S:=S) (w:=w) h;have em:=hm trivial _ (dM U (T m (by simp)));have ex:=hx trivial _ (dM U (T x (by simp)));have ae:=hv trivial _ (dM U (T v (by simp)));unfold oZ at h;obtain⟨j,r,kt,oi,g,ms,hk,hj,e0,hl,O,E,I,Y,aa,F⟩:=HW J em ex h;have X:g<w.heap.size:=(Array.getElem?_eq_some_iff.1 O).1;rcases F with⟨rfl,ab⟩|⟨i,me,cs,rfl,q1,q2,q3,q4,q5,q6,q7⟩
 ·have A:=Ga (m:=⟨a.eval x,a.eval v,ms.length⟩) (cs:=[x',v']) 0 _ _ E (by grind[Dp]) (by grind[bR]);have q:=J.setMap hj hl A I X;refine iD hw (Aq (w':={ w with heap:=w.heap.setIfInBounds g (.map (ms++[(⟨a.eval x,a.eval v,ms.length⟩:MapEntry)]).toArray (ms++[(⟨a.eval x,a.eval v,ms.length⟩:MapEntry)]).length) }) ?_ (hK _ _ _ _ hk (Rel.step J U hG hN hd hn q.1 q.2 (Ar hj) (by grind[rep]))));simp[execOp,ho,e0,Instr.mapUpdate,run_underlying Y,MapKept.run_getObj_map O,aa,ab,MapKept.run_setObj_map _ O]
 ·have A:=F5 (m:=⟨a.eval x,a.eval v,i⟩) (cs:=[x',v']) 0 _ _ i E (by simp) (by grind[bR]);have q:=J.setMap hj hl A I X;refine iD hw (Aq (w':={ w with heap:=w.heap.setIfInBounds g (.map (ms.set i ⟨a.eval x,a.eval v,i⟩).toArray (ms.set i (⟨a.eval x,a.eval v,i⟩:MapEntry)).length) }) ?_ (hK _ _ _ _ hk (Rel.step J U hG hN hd hn q.1 q.2 (Ar hj) (by grind[rep]))));have ac:=Mg (P:=P) q5;simp[execOp,ho,e0,Instr.mapUpdate,run_underlying Y,MapKept.run_getObj_map O,aa,q3,q1,ac,MapKept.run_setObj_map _ O,yX q1,q6]
def Mk{t:TypeId}{m x:Operand}(T:St S w H)(hF:FR S w ρ a)(hG:Grow S0 w0 S w)(hN:hY S0.N H0 H)(hd:a.defers=[])(hn:a.tmps.size=n)(ho:o.op=.mapEntry t m x)(hb:∀x∈o.op.operands,opB a.tmps.size x=true)
  (hw:Region.wanted o (yielded ops a.tmps)=true) (hK:∀Y H' a' w',K Y H'->Rel n S0 w0 H0 Y H' a' w'->K' a' w')
  (h:cE none (aev ρ m) fun m=>cE none (aev ρ x) fun x=>DQ P o t m x ρ H K):Cf P ops o a w K' Q':=by
 rw[ho]at hb;simp only[Op.operands]at hb;obtain⟨m',h,hm⟩:=bF (S:=S) (w:=w) h;obtain⟨x',h,hx⟩:=bF (S:=S) (w:=w) h;have em:=hm trivial _ (dM hF (hb m (by simp)));have ex:=hx trivial _ (dM hF (hb x (by simp)));unfold DQ at h;obtain⟨j,r,kt,oi,g,ms,O,hj,e0,hl,U,J,aa,X,Z,I⟩:=HW T em ex h;have af:g<w.heap.size:=(Array.getElem?_eq_some_iff.1 U).1;rcases I with⟨rfl,ab⟩|⟨i,me,cs,rfl,q1,q2,q3,q4,q5,q6,q7⟩
 ·simp only at O;split at O
  ·rename_i z hz;obtain⟨zv,ac,ag⟩:=Nl hz;have A:=Ga (m:=⟨a.eval x,zv,ms.length⟩) (cs:=[x',z]) 0 _ _ J (by grind[Dp]) (by grind[bR]);have q:=T.setMap hj hl A aa af;refine iD hw (fG (v:=.tuple #[zv,goInt ms.length]) (w':={ w with heap:=w.heap.setIfInBounds g (.map (ms++[(⟨a.eval x,zv,ms.length⟩:MapEntry)]).toArray (ms++[(⟨a.eval x,zv,ms.length⟩:MapEntry)]).length) }) ?_ (hK _ _ _ _ O (Rel.step T hF hG hN hd hn q.1 q.2 (Ar hj) ?_)))
   ·simp[execOp,ho,e0,Instr.mapEntry,run_underlying X,MapKept.run_getObj_map U,Z,ab,ac,MapKept.run_setObj_map _ U]
   grind[rep,bR,goInt,Dp]
  grind
 ·simp only at O;have F:ms.set i ⟨a.eval x,me.val,i⟩=ms:=by
   have e0:(⟨a.eval x,me.val,i⟩:MapEntry)=me:=by rw[<-q4,<-q6]
   rw[e0];apply List.ext_getElem?
   grind
  have hm:({ w with heap:=w.heap.setIfInBounds g (.map ms.toArray ms.length) }:World)=w:=by
   have hh:w.heap.setIfInBounds g (.map ms.toArray ms.length)=w.heap:=by grind
   rw[hh]
  obtain⟨xk,xv,rfl,r1,r2⟩:=KO q7;have e1:(r.es.getD i []).getD 1 .any=xv:=by grind
  rw[e1]at O;refine iD hw (fG (v:=.tuple #[me.val,goInt i]) (w':=w) ?_ (hK _ _ _ _ O (Rel.step T hF hG hN hd hn T (Grow.refl S w) (hY.refl _ _) ?_)))
  ·have ae:=Mg (P:=P) q5;have E:=MapKept.run_setObj_map (P:=P) (.map (List.toArray ms) ms.length) U;rw[hm]at E;simp[execOp,ho,e0,Instr.mapEntry,run_underlying X,MapKept.run_getObj_map U,Z,q3,q1,ae,yX q1,F,E,q6]
  grind[rep,bR,goInt]
def Oy:∀(i:Nat) (es:List (List AV)) (ms:List MapEntry) (j:Nat) {m:MapEntry},pH S w i es ms->ms[j]?=some m->ms.findIdx? (fun e=>(e.born:Int) == ((i+j:Nat):Int))=some j
 | _,[],ms,j,m,h,hj=>by grind[pH]
 | i,c::r,ms,0,m,h,hj=>by grind[pH]
 | i,c::r,ms,j+1,m,h,hj=>by
  simp only[pH]at h;obtain⟨F,t,rfl,h1,_,E⟩:=h;have ih:=Oy (i+1) r t j E (by simpa using hj);have A:((F.born:Int) == ((i+(j+1):Nat):Int))=false:=by simp[h1];omega
  rw[List.findIdx?_cons,A,show i+(j+1)=i+1+j by omega,ih];rfl
def GF{t:TypeId}{m s v:Operand}(Y:St S w H)(U:FR S w ρ a)(hG:Grow S0 w0 S w)(hN:hY S0.N H0 H)(hd:a.defers=[])(hn:a.tmps.size=n)(ho:o.op=.entryStore t m s v)(I:∀x∈o.op.operands,opB a.tmps.size x=true)
  (hw:Region.wanted o (yielded ops a.tmps)=true) (hK:∀T H' a' w',K T H'->Rel n S0 w0 H0 T H' a' w'->K' a' w')
  (h:cE none (aev ρ m) fun m=>cE none (aev ρ s) fun s=>cE none (aev ρ v) fun v=>yU o m s v ρ H K):Cf P ops o a w K' Q':=by
 rw[ho]at I;simp only[Op.operands]at I;obtain⟨m',h,hm⟩:=bF (S:=S) (w:=w) h;obtain⟨s',h,hs⟩:=bF (S:=S) (w:=w) h;obtain⟨v',h,hv⟩:=bF (S:=S) (w:=w) h;have em:=hm trivial _ (dM U (I m (by simp)));have es:=hs trivial _ (dM U (I s (by simp)));have ab:=hv trivial _ (dM U (I v (by simp)));unfold yU at h;split at h
 ·rename_i j kd i _ _;split at h
  ·rename_i r hj;obtain⟨⟨i0,i1⟩,h⟩:=h;simp only[rep]at em es;obtain⟨_,e0,g0,J⟩:=em;rw[e0]at J;obtain⟨g,ms,hl,Z,A,X⟩:=(Y.rows j r hj).mp J;have aa:g<w.heap.size:=(Array.getElem?_eq_some_iff.1 Z).1;obtain⟨F,g1,g2,g3⟩:=SL 0 _ _ i.toNat A (by omega);obtain⟨xk,xv,e1,r1,r2⟩:=KO g3;have e2:(r.es.getD i.toNat []).getD 0 .any=xk:=by grind
   rw[e2]at h;have E:=F5 (m:=⟨F.key,a.eval v,F.born⟩) (cs:=[xk,v']) 0 _ _ i.toNat A (by omega) (by grind[bR]);have q:=Y.setMap hj hl E X aa;have O:=Oy 0 _ _ i.toNat A g1;rw[Nat.zero_add,Int.toNat_of_nonneg i0]at O;refine iD hw (Aq (w':={ w with heap:=w.heap.setIfInBounds g (.map (ms.set i.toNat ⟨F.key,a.eval v,F.born⟩).toArray (ms.set i.toNat (⟨F.key,a.eval v,F.born⟩:MapEntry)).length) }) ?_ (hK _ _ _ _ h (Rel.step Y U hG hN hd hn q.1 q.2 (Ar hj) (by grind[rep]))));rw[hl]at e0;simp[execOp,ho,e0,es,asInt,asIntOf,Instr.entryStore,MapKept.run_getObj_map Z,O,MapKept.run_setObj_map _ Z,yX g1]
  grind
 grind
def MJ{t:TypeId}(E:St S w H)(I:FR S w ρ a)(O:Grow S0 w0 S w)(X:hY S0.N H0 H)(Y:a.defers=[])(U:a.tmps.size=n)(Z:o.op=.makeMap t none)
  (T:Region.wanted o (yielded ops a.tmps)=true) (J:∀A H' F w',K A H'->Rel n S0 w0 H0 A H' F w'->K' F w')
  (h:sO H ⟨0,2,[]⟩ fun k H'=>K (upd ρ o.dst (.om k)) H'):Cf P ops o a w K' Q':=by
 have q:=E.newMap (w':=w.alloc (.map #[] 0)) rfl rfl rfl rfl;refine iD T (fG (v:=.map (some w.heap.size)) (w':=w.alloc (.map #[] 0)) ?_ (J _ _ _ _ (h S.N E.fresh) (Rel.step E I O X Y U q.1 q.2 (sK E) ?_)))
 all_goals simp_all[execOp,Instr.makeMap,rep,Sg.addRow]
def DJ{ai:Bool}(aj:∀o∈ops,mU n o=true)(E:St S w H)(O:FR S w ρ a)(X:Grow S0 w0 S w)(Y:hY S0.N H0 H)(U:a.defers=[])(I:a.tmps.size=n)(hb:mU n o=true)
   (T:∀ak H' a' w',K ak H'->Rel n S0 w0 H0 ak H' a' w'->K' a' w') (h:aop P (bQ P) (eN P) mt ai ops o ρ H K):Cf P ops o a w K' Q':=by
 obtain⟨F,_⟩:=BF hb;unfold aop at h;obtain⟨G,h2,A⟩:=BL aj O I h;clear h;have h:=h2;clear h2;split at h
 . -- assign
   rename_i x J;unfold Gz at h;split at h
   . rename_i ag;obtain⟨_,rfl,_,hx⟩:=ag;have hx:x=.const (.slice none 0 0):=by grind[yC]
     subst hx;split at h
     . rename_i e sz ah he;obtain⟨i,z,hu,hi,ap,_,Z,_⟩:=iJ he;have hw:=eD A rfl;have q:=E.nilRow e Z;refine iD hw (fG (v:=.slice none 0 0) (w':=w) (by simp[execOp,J,Act.eval]) (T _ _ _ _ (h S.N E.fresh) (Rel.step E O X Y U I q.1 q.2 (sK E) ?_)));simp[rep,Sg.addRow]
     grind
   . exact wB E O X Y U I F A T (by rw[J];exact h)
 . -- alloc
   rename_i t J;split at h
   . rename_i z hz;obtain⟨rfl,_,h⟩:=h;have hw:=eD A rfl;split at h
     . split at h
       . rename_i nl am;exact Uz E O X Y U I J hz hw T am h
       grind
     obtain⟨v,i,hi,rfl,h1,aw,ab⟩:=adA hz (.tuple #[]) w;obtain⟨S',q1,q2,q3⟩:=Ia (t:=t) (cs:=v.cells.toList.map uT) (l:=v.cells.toList) E (by grind) (pF _) h1;refine iD hw (fG (v:=.pointer (some ⟨w.heap.size,0,none⟩)) (w':=w.alloc (.cells v.cells t)) (by simp_all[execOp]) (T _ _ _ _ (h S.N E.fresh) (Rel.step E O X Y U I (by omega) (by omega) (sK E) (by omega))))
   grind
 . -- box
   rename_i t x J;obtain⟨rfl,_,h⟩:=h;have hw:=eD A rfl;obtain⟨y,h2,hy⟩:=bF (S:=S) (w:=w) h;obtain⟨cs,h3,af⟩:=BN (S:=S) (w:=w) h2;have hx:opB a.tmps.size x=true:=I▸F x (by grind[Op.operands]);obtain⟨l,e1,e2,e3⟩:=af _ (hy trivial _ (dM O hx));have ab:(execOp a.eval o).run P w=.ok (.value (.pointer (some ⟨w.heap.size,0,none⟩))) (w.alloc (.cells l.toArray t)):=by simp_all[execOp,ayR]
   unfold avT at h3;split at h3
   . obtain⟨Z,h4⟩:=h3;obtain⟨S',q1,q2,q3⟩:=Ia (t:=t) E Z e2 e3;exact iD hw (fG ab (T _ _ _ _ (h4 S.N E.fresh) (Rel.step E O X Y U I q1 q2 (sK E) q3)))
   . have q:=E.newRo (o:=.cells l.toArray t) (w':=w.alloc (.cells l.toArray t)) rfl rfl rfl rfl;refine iD hw (fG ab (T _ _ _ _ h3 (Rel.step E O X Y U I q.1 q.2 (hY.refl _ _) ?_)));simp only[rep];refine⟨w.heap.size,0,by simp,.inr rfl,?_⟩;refine lH _ l 0 (fQ q.2.le (q.2.kept E) _ _ e2) e3 fun j u hj=>?_
     simp_all
 . -- buildSlice
   rename_i t m aa J;obtain⟨_,h⟩:=h;obtain⟨ps,h2,an⟩:=rR O aa.toList (fun p hp=>I▸F p.2 (by grind[Op.operands])) h;unfold rD at h2;split at h2
   . rename_i e sz ah he;obtain⟨⟨p1,p2,p3⟩,h3⟩:=h2;have go:∀(_:gt G),∃xs:List Value,(execOp a.eval o).run P w=.ok (.value (.slice (some ⟨w.heap.size,0,none⟩) m m)) (w.alloc (.cells xs.toArray e))/\bR S w (ps.map (·.2)).flatten xs/\(∀u∈xs,u.oneCell'=true)/\ps.length=m/\xs.length=m*sz:=fun hg=>by
       obtain⟨f1,f2⟩:=an hg;have hl:(aa.map fun(p:Nat×Operand)=>(p.1,a.eval p.2)).toList=aa.toList.map fun p=>(p.1,a.eval p.2):=by simp
       rw[<-hl]at f1 f2;obtain⟨xs,g1,g2,g3,g4,g5⟩:=LP (w:=w) he p1 p2 f1 f2 p3
       grind[execOp,asN]
     obtain⟨au,z,hu,hi,ap,_,Z,_⟩:=iJ he;split at h3
     . rename_i ag;obtain⟨_,rfl⟩:=ag;have hw:=eD A rfl;obtain⟨xs,g1,g2,g3,g4,g5⟩:=go trivial;have ae:(ps.map (·.2)).length=m:=by grind
       have q:=E.newRow (e:=e) (sz:=sz) (cap:=m) (es:=ps.map (·.2)) (xs:=xs) (cur:=xs.toArray) Z (jT.1 p2) g2 g3 (by omega) (by simp only[maxLen];have:m<=m*sz:=Nat.le_mul_of_pos_right _ Z;omega) (by omega)
         (by grind) (w':=w.alloc (.cells xs.toArray e)) rfl rfl rfl rfl
       refine iD hw (fG g1 (T _ _ _ _ (h3 S.N E.fresh) (Rel.step E O X Y U I q.1 q.2 (sK E) ?_)));simp_all[rep,Sg.addRow]
     . refine And.symm ⟨fun hw=>?_,fun hw=>?_⟩
       . have ac:¬gt G:=fun h=>by grind
         exact T _ _ _ _ h3 (Rel.step E O X Y U I E (Grow.refl S w) (hY.refl _ _) (gF ac))
       have ac:=A.1 hw;obtain⟨xs,g1,g2,g3,g4,g5⟩:=go ac;have ae:(ps.map (·.2)).length=m:=by grind
       have q:=E.newRo (o:=.cells xs.toArray e) (w':=w.alloc (.cells xs.toArray e)) rfl rfl rfl rfl;refine fG g1 (T _ _ _ _ h3 (Rel.step E O X Y U I q.1 q.2 (hY.refl _ _) (iA ac ?_)));simp only[rep];refine⟨_,_,_,rfl,ae,Nat.le_refl _,by simp only[maxLen];have:m<=m*sz:=Nat.le_mul_of_pos_right _ Z;omega,.inr ⟨w.heap.size,0,sz,rfl,.inr rfl,Z,?_⟩⟩;refine uC _ _ (jT.1 p2) (lH _ xs 0 (fQ q.2.le (q.2.kept E) _ _ g2) g3 fun j u hj=>?_);simp_all
   grind
 . -- store
   rename_i t x y J;obtain⟨rfl,_,h⟩:=h;have hw:=eD A rfl;split at h
   . rename_i av;have hy:y=.const (.slice none 0 0):=by grind[yC]
     subst hy;exact Ju (K2:=fun _=>True) E O X Y U I J (fun x hx=>I▸F x hx) hw T h
   obtain⟨x',h2,ar⟩:=bF (S:=S) (w:=w) h;obtain⟨y',h3,al⟩:=bF (S:=S) (w:=w) h2;obtain⟨cs,h4,af⟩:=BN (S:=S) (w:=w) h3;have aq:opB a.tmps.size x=true:=I▸F x (by grind[Op.operands]);have ao:opB a.tmps.size y=true:=I▸F y (by grind[Op.operands]);have ex:=ar trivial _ (dM O aq);obtain⟨l,e1,e2,e3⟩:=af _ (al trivial _ (dM O ao));exact GD E O X Y U I J hw T ex e1 e2 e3 h4
 . rename_i c J;exact Vl E O X Y U I J F A T h
 all_goals first
   | exact h.elim
   | (rename_i J; split at h
      . obtain⟨rfl,_,h⟩:=h;exact Ra E O X Y U I J (fun x hx=>I▸F x hx) (eD A rfl) T h
      . exact wB E O X Y U I F A T (by grind))
   | (rename_i J; split at h
      . obtain⟨rfl,_,h⟩:=h;exact YJ E O X Y U I J F A T h
      . exact wB E O X Y U I F A T (by grind))
   | (rename_i J; split at h
      . obtain⟨rfl,h⟩:=h;split at h
        . exact QH E O X Y U I J (fun x hx=>I▸F x hx) (eD A rfl) T h
        . exact Rf E O X Y U I J (fun x hx=>I▸F x hx) (eD A rfl) T h
      . exact wB E O X Y U I F A T (by grind))
   | (rename_i J;obtain⟨rfl,_,h⟩:=h;exact Jr E O X Y U I J (fun x hx=>I▸F x hx) (eD A rfl) T h)
   | (rename_i J;exact wB E O X Y U I F A T (by rw[J];exact h))
   | (rename_i J;obtain⟨rfl,_,h⟩:=h;exact MJ E O X Y U I J (eD A rfl) T h)
   | (rename_i J;obtain⟨rfl,_,h⟩:=h;exact Jl E O X Y U I J (fun x hx=>I▸F x hx) (eD A rfl) T h)
   | (rename_i J;obtain⟨rfl,_,h⟩:=h;exact Pv E O X Y U I J (fun x hx=>I▸F x hx) (eD A rfl) T h)
   | (rename_i J;obtain⟨rfl,_,h⟩:=h;exact Mk E O X Y U I J (fun x hx=>I▸F x hx) (eD A rfl) T h)
   | (rename_i J;obtain⟨rfl,_,h⟩:=h;exact GF E O X Y U I J (fun x hx=>I▸F x hx) (eD A rfl) T h)
end
end Go.Aw
end
section
namespace Go.Aw
open Go.RowKit
section
variable{P:Program}{ops:Array Oper}{md:Region.Mode}{C:World->Prop}{R:World->World->Prop}{Q':Exit->Act->World->Prop}
def goes(P:Program)(K:Value->World->Prop):Result Next->Prop
 | .ok (.value v) w'=>K v w'
 | .ok .skip w'=>K undef w'
 | .ok (.enter f args) w'=>Calls P f args w' fun e w''=>∃v,e=.returned v/\K v w''
 | .ok (.row row args) w'=>Rows P row args w' K
 | _=>False
def gAt(P:Program)(o:Oper)(a:Act)(w:World)(K:Value->World->Prop):Prop:=goes P K ((execOp a.eval o).run P w)
def gOp(P:Program)(ops:Array Oper)(i:Nat)(K:Act->World->Prop)(a:Act)(w:World):Prop:=
 match ops[i]? with
 | none=>False
 | some o=>if Region.wanted o (yielded ops a.tmps)=true then gAt P o a w (fun v w'=>K (a.put o.dst v) w')else K (a.put o.dst undef) w
def AX{K K':Value->World->Prop}(h:∀v w,K v w->K' v w){r:Result Next}(A:goes P K r):goes P K' r:=by
 cases r with
 | ok n w'=>
  cases n <;> simp only[goes]at A |-
  case value u=>grind
  case skip=>grind
  case enter f args=>exact A.mono fun e I ⟨v,F,E⟩=>⟨v,F,h _ _ E⟩
  case row row args=>exact A.mono h
 | halt x w'=>grind[goes]
def K4{i:Nat}{a:Act}{w:World}{K K':Act->World->Prop}(h:∀a w,K a w->K' a w)(A:gOp P ops i K a w):gOp P ops i K' a w:=by
 unfold gOp at *;split
 ·grind
 ·rename_i o I;simp only[I]at A;split
  ·rename_i F;rw[if_pos F]at A;exact AX (fun v w' E=>h _ _ E) A
  grind
def aeU{o:Oper}{a:Act}{w:World}{K:Act->World->Prop}(h:gAt P o a w (fun v w'=>K (a.put o.dst v) w')):o.wp P a w K Q':=by
 unfold Oper.wp;unfold gAt at h;generalize (execOp a.eval o).run P w=r at *;cases r with
 | ok n w'=>
  cases n <;> simp only[goes]at h <;> simp only[Oper.upon]
  case value u=>exact h
  case skip=>exact h
  case enter f args=>exact h.mono fun e A ⟨v,F,E⟩=>by grind
  omega
 | halt x w'=>grind[goes]
def Tp{i:Nat}{a:Act}{w:World}{K:Act->World->Prop}(h:gOp P ops i K a w):wpOp P ops Q' i K a w:=by
 unfold gOp at h;unfold wpOp;split
 ·grind
 ·rename_i o A;simp only[A]at h;split
  all_goals simp_all[aeU]
def Qy{o:Oper}{a:Act}{w:World}{v:Value}{D:World->Prop}(A:D w)(h:o.quietAt P a D w v):gAt P o a w (fun u w'=>u=v/\D w'):=by
 unfold Oper.quietAt at h;unfold gAt;generalize (execOp a.eval o).run P w=r at *;cases r with
 | ok n w'=>
  cases n <;> simp only[Oper.quietUpon]at h <;> simp only[goes]
  all_goals grind
 | halt x w'=>grind[Oper.quietUpon]
def nC(P:Program)(md:Region.Mode)(ops:Array Oper)(C:World->Prop)(R:World->World->Prop)(Q':Exit->Act->World->Prop):Nat->Array Bool->Act->World->Prop
 | 0,listed,a,w=>Region.ready md ops listed=[]/\Q' .normal a w
 | f+1,listed,a,w=>Region.ready md ops listed≠[] /\
   ∀i∈Region.ready md ops listed,gOp P ops i (fun a' w'=>C w'/\∀w2,R w' w2->nC P md ops C R Q' f (listed.setIfInBounds i true) a' w2) a w
def Be(A:∀w,R w w):∀(f:Nat) (listed:Array Bool) (a:Act) (w:World),nC P md ops C R Q' f listed a w->wpAny P md ops Q' f listed a w
 | 0,_,_,_,h=>h
 | f+1,_,_,_,h=>⟨fun h0=>absurd h0 h.1,fun i E=>Tp (K4 (fun I w' F=>Be A f _ _ _ (F.2 w' (A w'))) (h.2 i E))⟩
def YQ(P:Program)(ops:Array Oper)(C:World->Prop)(R:World->World->Prop)(o:Oper)(v:Value)(a:Act):Prop:=
 (Region.wanted o (yielded ops a.tmps)=true/\∀w,C w->o.quietAt P a (R w) w v)\/(Region.wanted o (yielded ops a.tmps)=false/\v=undef)
def YQ.of_same{o:Oper}{v:Value}{a A:Act}(F:YQ P ops C R o v a)(I:execOp A.eval o=execOp a.eval o)
 (E:Region.wanted o (yielded ops A.tmps)=Region.wanted o (yielded ops a.tmps)):YQ P ops C R o v A:=by grind[YQ,Oper.quietAt]
def avV{j:Nat}{A E:Oper}{v:Value}(Y:ops[j]?=some E)(O:A.apart ops E=true)
  (I:∀cs b,A.op≠.select cs b) (F:∀cs b,E.op≠.select cs b) {K:Act->World->Prop} {a:Act} {w:World}
  (X:YQ P ops C R A v a) (h:gOp P ops j K (a.put A.dst v) w):
  gOp P ops j (fun U w'=>YQ P ops C R A v U/\K (U.put A.dst v) w') a w:=by
 obtain⟨h1,Z,T⟩:=Oper.apart_spec O;have keep:∀u,YQ P ops C R A v (a.put E.dst u):=fun u=>X.of_same (execOp_put A I a E.dst u T) (wanted_put A a E.dst u T)
 unfold gOp at *;simp only[Y]at *;rw[wanted_put E a A.dst v h1]at h;split
 ·rename_i J;rw[if_pos J]at h;unfold gAt at *;rw[execOp_put E F a A.dst v h1]at h
  grind[Act.put_comm]
 ·rename_i J;rw[if_neg J]at h
  grind[Act.put_comm]
def O0{i:Nat}{A:Oper}{v:Value}{a:Act}{w:World}(T:ops[i]?=some A)(F:C w)(I:∀w,R w w)(J:YQ P ops C R A v a){K:Act->World->Prop}(h:∀w',R w w'->K (a.put A.dst v) w'):
  gOp P ops i K a w:=by
 unfold gOp;simp only[T];rcases J with⟨E,O⟩|⟨E,rfl⟩
 ·rw[if_pos E];exact AX (fun u w' ⟨e,U⟩=>by grind) (Qy (I w) (O w F))
 grind
def pK{i:Nat}{oi:Oper}{v:Value}(hi:ops[i]?=some oi)(O:∀(j:Nat) (o:Oper) cs b,ops[j]?=some o->o.op≠.select cs b)
   (hR:∀w,R w w) (hT:∀w w' ac,R w w'->R w' ac->R w ac) (U:∀w w',C w->R w w'->C w'):
   ∀(f:Nat) (A:Array Bool) (a:Act) (w:World),C w ->
     (∀j Y,ops[j]?=some Y->j≠i->A.getD j true=false->(∀e∈Y.after,Region.binds md e=true->e.on≠i)->oi.apart ops Y=true) ->
     i∈Region.ready md ops A->YQ P ops C R oi v a ->
     (∀J,R w J->nC P md ops C R Q' f (A.setIfInBounds i true) (a.put oi.dst v) J)->nC P md ops C R Q' (f+1) A a w:=by
 intro f;induction f with
 | zero=>
   intro A a w hC _ hr hy H;refine⟨fun h=>(by grind),fun j hj=>?_⟩;by_cases E:j=i
   . subst E;exact O0 hi hC hR hy fun w' F=>⟨U _ _ hC F,fun J X=>H J (hT _ _ _ F X)⟩
   . have:=ready_mono hj E;rw[(H w (hR w)).1]at this
     grind
 | succ f ih=>
   intro A a w hC T hr hy H;refine⟨fun h=>(by grind),fun j hj=>?_⟩;by_cases E:j=i
   . subst E;exact O0 hi hC hR hy fun w' F=>⟨U _ _ hC F,fun J X=>H J (hT _ _ _ F X)⟩
   . have h1:=(H w (hR w)).2 j (ready_mono hj E);obtain⟨ae,Y,Z,ag⟩:=mem_ready.1 hj;have aa:∀e∈Y.after,Region.binds md e=true->e.on≠i:=fun e he hb ah=>by grind[mem_ready]
     have X:=avV Z (T j Y Z E ae aa) (fun cs b=>O i oi cs b hi) (fun cs b=>O j Y cs b Z) hy h1;have I : ∀ k ok, ops[k]? = some ok -> k ≠ i -> (A.setIfInBounds j true).getD k true = false ->
         (∀e∈ok.after,Region.binds md e=true->e.on≠i)->oi.apart ops ok=true:=fun k ok hk ak aj ai=>by simp_all;grind
     refine K4 (fun a' w' ⟨af,ab,hk⟩=>⟨ab,fun J X=>ih (A.setIfInBounds j true) a' J (U _ _ ab X) I (ready_mono hr (Ne.symm E)) af fun w3 h3=>?_⟩) X
     grind[Array.setIfInBounds_comm]
end
def Rw(w w':World):Prop:=w'.os=w.os/\w'.tape=w.tape/\w'.output=w.output/\w.heap.size<=w'.heap.size/\∀k,k<w.heap.size->w'.heap[k]?=w.heap[k]?
theorem Rw.refl(w:World):Rw w w:=⟨rfl,rfl,rfl,Nat.le_refl _,fun _ _=>rfl⟩
def Rw.trans{w w' E:World}(h:Rw w w')(A:Rw w' E):Rw w E:=
 ⟨A.1.trans h.1,A.2.1.trans h.2.1,A.2.2.1.trans h.2.2.1,Nat.le_trans h.2.2.2.1 A.2.2.2.1,fun k F=>(A.2.2.2.2 k (Nat.lt_of_lt_of_le F h.2.2.2.1)).trans (h.2.2.2.2 k F)⟩
def Cb(S:Sg)(wb w:World):Prop:=w.os=wb.os/\w.tape=wb.tape/\w.output=wb.output/\wb.heap.size<=w.heap.size/\∀k,S.fz k->w.heap[k]?=wb.heap[k]?
def Cb.rw{S:Sg}{wb w w':World}{H:aM}(F:St S wb H)(h:Cb S wb w)(A:Rw w w'):Cb S wb w':=
 ⟨A.1.trans h.1,A.2.1.trans h.2.1,A.2.2.1.trans h.2.2.1,Nat.le_trans h.2.2.2.1 A.2.2.2.1,fun k E=>(A.2.2.2.2 k (Nat.lt_of_lt_of_le (F.l9 k E) h.2.2.2.1)).trans (h.2.2.2.2 k E)⟩
def Rw.cb{S:Sg}{wb w:World}{H:aM}(E:St S wb H)(h:Rw wb w):Cb S wb w:=⟨h.1,h.2.1,h.2.2.1,h.2.2.2.1,fun k A=>h.2.2.2.2 k (E.l9 k A)⟩
def Cb.st{S:Sg}{wb w:World}{H:aM}(E:St S wb H)(h:Cb S wb w):St S w bN:=
 ⟨E.ι,fun k A=>Nat.lt_of_lt_of_le (E.l9 k A) h.2.2.2.1,fun k r A=>by grind[bN],fun k r A=>by grind[bN],fun k k' r r' A=>by grind[bN],E.tabs.keep S.le_refl (fun k A=>h.2.2.2.2 k (E.ι k A))⟩
def Cb.kept{S:Sg}{wb w:World}{H:aM}(E:St S wb H)(h:Cb S wb w):iT S wb w:=fun k A=>h.2.2.2.2 k (E.ι k A)
def Cb.agree{S:Sg}{wb w:World}{H:aM}(A:St S wb H)(h:Cb S wb w):Agree S bN wb w:=⟨h.kept A,fun k r E=>by grind[bN]⟩
def Grow.cb{S S':Sg}{wb w:World}(h:Grow S wb S' w):Cb S wb w:=⟨h.os,h.tape,h.output,h.size,h.same⟩
section
variable{P:Program}{n:Nat}{S0:Sg}{w0:World}{H0:aM}{mt:Nat->Bool}{ops:Array Oper}{K:Env->aM->Prop}{ρ:Env}{H:aM}{a:Act}{w:World}
def Rel.rw{w':World}(h:Rel n S0 w0 H0 ρ H a w)(A:Rw w w'):Rel n S0 w0 H0 ρ H a w':=by obtain⟨S,E,I,J,O,U,T⟩:=h;have F:=E.grow A.1 A.2.1 A.2.2.1 A.2.2.2.1 A.2.2.2.2;exact⟨S,E.after A.2.2.2.1 A.2.2.2.2,I.keep S.le_refl (F.kept E),J.trans F,O,U,T⟩
def G6{o:Oper}{K':Act->World->Prop}(F:∀a w,K' a w->a.defers=[])(h:o.wp P a w K' fun _ _ _=>False):gAt P o a w fun v w'=>K' (a.put o.dst v) w':=by
 unfold Oper.wp at h;unfold gAt;generalize (execOp a.eval o).run P w=r at *;cases r with
 | ok m w'=>
  cases m <;> simp only[Oper.upon]at h <;> simp only[goes]
  case value u=>exact h
  case skip=>exact h
  case enter f args=>
   refine h.mono fun e E A=>?_
   cases e
   case returned v=>grind
   case panicked c=>grind
   case outgrown=>obtain⟨_,_,h⟩:=A;grind
  all_goals grind[tL]
 | halt x w'=>cases x <;> simp only[Oper.upon]at h
variable{S:Sg}
def Bi{o:Oper}{w1:World}{CC:World->Prop}(E:∀w,CC w->St S w H/\Agree S H w1 w)(U:St S w1 H)(I:FR S w1 ρ a)(T:a.tmps.size=n)(hb:∀x∈o.op.operands,opB n x=true){G:Option Bool}
  (A:Region.wanted o (yielded ops a.tmps)=true↔gt G) (h:jV P G ρ H o.op fun x=>K (upd ρ o.dst (wr G x)) H):
  ∃z,K (upd ρ o.dst z) H/\(Region.wanted o (yielded ops a.tmps)=true->∃v,rep S w1 z v/\∀w,CC w->o.quietAt P a (Rw w) w v)/\(Region.wanted o (yielded ops a.tmps)=false->rep S w1 z undef):=by
 obtain⟨z,O,Y⟩:=Im (T▸hb) I U.rows h;refine⟨_,O,fun F=>?_,fun F=>?_⟩
 ·obtain⟨v,X,Z⟩:=Y (A.1 F);refine⟨v,iA (A.1 F) X,fun w J=>?_⟩;unfold Oper.quietAt;rw[Z w (E w J).2 o rfl];exact⟨rfl,rfl⟩
 grind[gF]
def Vz{o:Oper}{c:Call}{w1:World}{CC:World->Prop}(Z:∀w,CC w->St S w H/\Agree S H w1 w)(hS:St S w1 H)(hF:FR S w1 ρ a)(hn:a.tmps.size=n)(ho:o.op=.call c)(hb:∀x∈o.op.operands,opB n x=true){G:Option Bool}
  (ab:Region.wanted o (yielded ops a.tmps)=true↔gt G) {nl:Bool} (h:Gj P (bQ P) (eN P) nl true G o c ρ H K):
  ∃z,K (upd ρ o.dst z) H/\(Region.wanted o (yielded ops a.tmps)=true->∃v,rep S w1 z v/\∀w,CC w->o.quietAt P a (Rw w) w v)/\(Region.wanted o (yielded ops a.tmps)=false->rep S w1 z undef):=by
 rw[ho]at hb;simp only[Op.operands,Call.operands]at hb;unfold Gj at h;split at h
 ·rename_i b hc;obtain⟨ys,Y,U⟩:=qZ hF c.args.toList (fun x hx=>hn▸hb x (by grind)) h;clear h;have h:=Y;clear Y;split at h
  ·rename_i x t F;obtain⟨z,hz,hl⟩:=LB (G:=G) (ty:=o.type) hS.rows h;refine⟨_,hz,fun T=>?_,fun T=>gF fun h=>by grind⟩;have E:=ab.1 T;have X:=U E;simp only[bR]at X;obtain⟨u,t',e1,e2,rfl⟩:=X;obtain⟨v,hv,O⟩:=hl E u e2;have ea:c.args.map a.eval=#[u]:=Array.toList_inj.1 (by simp_all);have et:c.argTypes=#[t]:=Array.toList_inj.1 (by omega);refine⟨v,iA E hv,fun w J=>?_⟩;unfold Oper.quietAt;have:(execOp a.eval o).run P w=.ok (.value v) w:=by simp[execOp,ho,resolve,hc,invoke,builtin,ea,et,O w (Z w J).2]
   rw[this];exact⟨rfl,rfl⟩
  ·grind
  ·grind
  ·grind
  ·rename_i x y t t' F;obtain⟨z,hz,hl⟩:=J6 (P:=P) (S:=S) (w:=w1) (H:=H) (G:=G) (tys:=c.argTypes) (ty:=o.type) h;refine⟨_,hz,fun T=>?_,fun T=>gF fun h=>by grind⟩
   ·have E:=ab.1 T;have X:=U E;simp only[bR]at X;obtain⟨us,t1,e1,e2,ux,t2,rfl,e3,rfl⟩:=X;obtain⟨v,hv,O⟩:=hl E us ux e2 e3;have ea:c.args.map a.eval=#[us,ux]:=Array.toList_inj.1 (by simp_all);refine⟨v,iA E hv,fun w J=>?_⟩;unfold Oper.quietAt;have:(execOp a.eval o).run P w=.ok (.value v) w:=by simp_all[execOp,resolve,invoke,builtin]
    rw[this];exact⟨rfl,rfl⟩
  ·rename_i x y t t' F;obtain⟨z,hz,hl⟩:=Kx (P:=P) (S:=S) (w:=w1) (H:=H) (G:=G) (tys:=c.argTypes) (ty:=o.type) h;refine⟨_,hz,fun T=>?_,fun T=>gF fun h=>by grind⟩
   ·have E:=ab.1 T;have X:=U E;simp only[bR]at X;obtain⟨us,t1,e1,e2,ux,t2,rfl,e3,rfl⟩:=X;obtain⟨v,hv,O⟩:=hl E us ux e2 e3;have ea:c.args.map a.eval=#[us,ux]:=Array.toList_inj.1 (by simp_all);refine⟨v,iA E hv,fun w J=>?_⟩;unfold Oper.quietAt;have:(execOp a.eval o).run P w=.ok (.value v) w:=by simp_all[execOp,resolve,invoke,builtin]
    rw[this];exact⟨rfl,rfl⟩
  grind
 ·rename_i f hc;obtain⟨yf,Y,hf⟩:=bF (S:=S) (w:=w1) h;clear h;have h:=Y;clear Y;split at h
  ·rename_i g ai af ag;by_cases ah:nl=true
   ·grind
   rw[if_neg ah]at h;obtain⟨ys,Y,U⟩:=qZ hF c.args.toList (fun x hx=>hn▸hb x (by grind)) h;clear h;obtain⟨al,h⟩:=Y;have aj:=fun hg=>Fb ag (hf hg _ (dM hF (hn▸hb f (by grind))))
   have F:gt G->∃first A:Array Value,a.eval f=.func (.func g) first A/\bR S w1 (ai++ys++af) (first++c.args.map a.eval++A).toList:=fun hg=>by obtain⟨first,A,h1,Y,h3⟩:=aj hg;refine⟨first,A,h1,?_⟩;simp_all[fZ]
   split at h
   ·grind
   ·obtain⟨r,hq,hk⟩:=h;by_cases E:gt G
    ·rcases hq E with hq|⟨x,rfl,am⟩
     ·obtain⟨v,ae⟩:=hq.val;rw[Tq (by grind)]at hk;refine⟨_,hk,fun T=>?_,fun T=>gF fun h=>by grind⟩;obtain⟨first,A,ak,ac⟩:=F E;have aa:∀w,(execOp a.eval o).run P w=.ok (.enter g (first++c.args.map a.eval++A)) w:=fun w=>by
       simp only[execOp,ho];rw[rU hc ak]
       grind[invoke,vS]
      have hv:=(hq.calls ae hS ac).1;refine⟨v,iA E (hv S w1),fun w J=>?_⟩;have I:=(hq.calls ae (Z w J).1 (fQ S.le_refl (Z w J).2.kept _ _ ac)).2;unfold Oper.quietAt;rw[aa];refine⟨rfl,?_⟩;rw[Array.toArray_toList]at I;exact I
     ·exact hk.elim
    ·obtain⟨z,hk⟩:=UH hk
     grind[gF]
  grind
 grind
def DB{o:Oper}{w1:World}{CC:World->Prop}(E:∀w,CC w->St S w H/\Agree S H w1 w)(T:∀o∈ops,mU n o=true)(U:St S w1 H)(J:FR S w1 ρ a)(O:a.tmps.size=n)(hb:mU n o=true)(h:aop P (bQ P) (eN P) mt true ops o ρ H K):
   ∃z,K (upd ρ o.dst z) H/\(Region.wanted o (yielded ops a.tmps)=true->∃v,rep S w1 z v/\∀w,CC w->o.quietAt P a (Rw w) w v)/\(Region.wanted o (yielded ops a.tmps)=false->rep S w1 z undef):=by
 obtain⟨A,_⟩:=BF hb;unfold aop at h;obtain⟨G,X,F⟩:=BL T J O h;clear h;have h:=X;clear X;split at h
 . rename_i x I;unfold Gz at h;split at h
   . grind
   . exact Bi E U J O A F (by rw[I];exact h)
 . grind
 . grind
 . grind
 . grind
 . rename_i c I;exact Vz E U J O I A F h
 all_goals first
   | exact h.elim
   | (simp at h;done)
   | (rename_i I; split at h
      . simp at h;done
      . exact Bi E U J O A F (by rw[I];exact h))
   | (rename_i I; split at h
      . obtain⟨rfl,h⟩:=h;rw[if_pos rfl]at h;obtain⟨z,hz,v,hv,Z⟩:=IP (S:=S) (w1:=w1) J (fun x Y=>O▸A x Y) I h;exact⟨z,hz,fun _=>⟨v,hv,fun w _=>by unfold Oper.quietAt;rw[Z w];exact⟨rfl,rfl⟩⟩,fun hw=>by grind[eD]⟩
      . exact Bi E U J O A F (by grind))
   | (rename_i I;exact Bi E U J O A F (by rw[I];exact h))
def Vp{o:Oper}{w1:World}{CC:World->Prop}(E:∀w,CC w->St S w bN/\Agree S bN w1 w)(Y:St S w1 H)(O:FR S w1 ρ a)(X:a.tmps.size=n){t:TypeId}{x:Operand}{lo hi m:Option Operand}(I:o.op=.slice t x lo hi m)(J:∀x∈o.op.operands,opB n x=true){G:Option Bool}
  (A:Region.wanted o (yielded ops a.tmps)=true↔gt G) (h:jV P G ρ H o.op fun x=>K (upd ρ o.dst (wr G x)) H):
  ∃z,K (upd ρ o.dst z) H/\(Region.wanted o (yielded ops a.tmps)=true->∃v,rep S w1 z v/\∀w,CC w->o.quietAt P a (Rw w) w v)/\(Region.wanted o (yielded ops a.tmps)=false->rep S w1 z undef):=by
 rw[I]at J h;obtain⟨z,U,hg⟩:=Fw (H':=bN) (X▸J) O Y.rows h;refine⟨_,U,fun F=>?_,fun F=>?_⟩
 ·obtain⟨v,Z,hr⟩:=hg (A.1 F);refine⟨v,iA (A.1 F) Z,fun w T=>?_⟩;unfold Oper.quietAt;rw[hr w (E w T).2 o I];exact⟨rfl,rfl⟩
 grind[gF]
def Yl{o:Oper}{w1:World}{CC:World->Prop}(F:∀w,CC w->St S w bN/\Agree S bN w1 w)(E:∀o∈ops,mU n o=true)(X:St S w1 H)(I:FR S w1 ρ a)(J:a.tmps.size=n)(Z:mU n o=true){K:Env->Prop}(h:aop P (bQ P) (eN P) mt true ops o ρ (qH o H) fun A _=>K A):
  ∃z,K (upd ρ o.dst z)/\(Region.wanted o (yielded ops a.tmps)=true->∃v,rep S w1 z v/\∀w,CC w->o.quietAt P a (Rw w) w v)/\(Region.wanted o (yielded ops a.tmps)=false->rep S w1 z undef):=by
 by_cases hs:∃t x lo Y m,o.op=.slice t x lo Y m
 ·obtain⟨t,x,lo,Y,m,U⟩:=hs;have e:qH o H=H:=by grind[qH]
  rw[e]at h;obtain⟨T,_⟩:=BF Z;unfold aop at h;obtain⟨G,h2,O⟩:=BL E I J h;clear h;rw[U]at h2;exact Vp (K:=fun A _=>K A) F X I J U T O (by grind)
 ·have e : qH o H = bN := by
   unfold qH;split
   ·grind
   ·rfl
  rw[e]at h;exact DB (K:=fun A _=>K A) F E (X.drop fun k r hk=>by grind[bN]) I J Z h
def Ou{Q':Exit->Act->World->Prop}{wb:World}{Sb:Sg}{Hb:aM}(A:∀o∈ops,mU n o=true)(Z:∀ρ H a w,K ρ H->Rel n Sb wb Hb ρ H a w->Q' .normal a w):
  ∀(l:List Oper) (k:Nat) (listed:Array Bool) (ρ:Env) (H:aM) (a:Act) (w:World),(∀j,l[j]?=ops[k+j]?)->(∀o∈l,mU n o=true)->Region.seqB .any ops l.length k listed=true ->
   AA P (bQ P) (eN P) mt false ops K l ρ H->Rel n Sb wb Hb ρ H a w->nC P .any ops (Cb Sb wb) Rw Q' l.length listed a w
 | [],_,_,ρ,H,a,w,_,_,hB,h,hR=>⟨by grind[Region.seqB],Z ρ H a w h hR⟩
 | o::rest,k,listed,ρ,H,a,w,hl,hb,hB,h,hR=>by
  have h0:ops[k]?=some o:=by simpa using(hl 0).symm
  simp only[List.length_cons,Region.seqB,Bool.and_eq_true,decide_eq_true_eq]at hB;refine⟨by grind,fun i hi=>?_⟩;rw[hB.1]at hi;have T:i=k:=by grind
  subst T;obtain⟨S,hS,hF,hG,hN,hd,hn⟩:=hR;have Y:=DJ (K':=fun I w'=>I.defers=[]/\Cb Sb wb w'/\∀F,Rw w' F->nC P .any ops (Cb Sb wb) Rw Q' rest.length (listed.setIfInBounds i true) I F) (Q':=fun _ _ _=>False) A hS hF hG hN hd hn (hb o (by simp))
   (fun X H' I w' E J=>by
    refine⟨?_,?_,fun F h2=>Ou A Z rest (i+1) _ X H' I F (fun j=>by have:=hl (j+1);grind) (fun o ho=>hb o (by grind)) hB.2 E (J.rw h2)⟩
    ·obtain⟨S',_,_,_,_,aa,_⟩:=J;omega
    ·obtain⟨S',_,_,U,_⟩:=J;exact U.cb) h
  unfold gOp;simp only[h0];by_cases O:Region.wanted o (yielded ops a.tmps)=true
  ·rw[if_pos O];exact AX (fun v w' E=>E.2) (G6 (fun a w E=>E.1) (Y.1 O))
  ·rw[if_neg O];exact(Y.2 (by grind)).2
def Mm{Q':Exit->Act->World->Prop}{wb:World}{Sb:Sg}(E:∀o∈ops,mU n o=true)(X:Region.noSelect ops=true)(F:St Sb wb bN){g:Nat}
  (hK:∀ρ a A w,K ρ bN->Rw wb w->FR Sb wb ρ a->a.defers=[]->a.tmps.size=n->∀k,Region.seqB .any ops g k A=true->k=ops.size-g->nC P .any ops (Cb Sb wb) Rw Q' g A a w):
  ∀(l:List Oper) (k:Nat) (A:Array Bool) (ρ:Env) (a:Act),(∀j,j<l.length->l[j]?=ops[k+j]?)->k+l.length=ops.size-g->(∀o∈l,mU n o=true)->Region.lexHead .any ops g l.length k A=true ->
   AA P (bQ P) (eN P) mt true ops K l ρ bN->FR Sb wb ρ a->a.defers=[]->a.tmps.size=n->∀w,Rw wb w->nC P .any ops (Cb Sb wb) Rw Q' (l.length+g) A a w
 | [],k,A,ρ,a,_,hk,_,hB,h,hF,hd,hn,w,hC=>by rw[List.length_nil,Nat.zero_add];exact hK ρ a A w h hC hF hd hn k hB (by omega)
 | o::rest,k,A,ρ,a,hl,hk,hb,hB,h,hF,hd,hn,w,hC=>by
  have h0:ops[k]?=some o:=by simpa using(hl 0 (by simp)).symm
  simp only[List.length_cons,Region.lexHead,Bool.and_eq_true]at hB;obtain⟨⟨T,hf⟩,U⟩:=hB;obtain⟨z,hz,h1,Z⟩:=DB (CC:=Cb Sb wb) (fun w I=>⟨I.st F,I.agree F⟩) E F hF hn (hb o (by simp)) h;have next:∀v,rep Sb wb z v->∀O,Rw w O->nC P .any ops (Cb Sb wb) Rw Q' (rest.length+g) (A.setIfInBounds k true) (a.put o.dst v) O:=fun v Y O Z=>Mm E X F hK rest (k+1) _ _ _ (fun j hj=>by simp_all;grind) (by grind) (fun o ho=>hb o (by grind)) U hz (FR.put hF Y) (by grind[tL]) (by grind[CU]) O (hC.trans Z)
  rw[List.length_cons,show rest.length+1+g=(rest.length+g)+1 by omega];by_cases hw:Region.wanted o (yielded ops a.tmps)=true
  ·obtain⟨v,Y,hq⟩:=h1 hw;exact pK h0 (Region.noSelect_spec X) Rw.refl (fun _ _ _=>Rw.trans) (fun _ _ I T=>I.rw F T) _ A a w (hC.cb F) (Region.free_spec h0 hf) (by grind) (.inl ⟨hw,hq⟩) (next v Y)
  ·have J:Region.wanted o (yielded ops a.tmps)=false:=by grind
   exact pK h0 (Region.noSelect_spec X) Rw.refl (fun _ _ _=>Rw.trans) (fun _ _ I T=>I.rw F T) _ A a w (hC.cb F) (Region.free_spec h0 hf) (by grind) (.inr ⟨J,rfl⟩) (next _ (Z J))
def VV{Q':Exit->Act->World->Prop}{id m:Nat}(hm:P.follows .mixedOrders=true)(A:∀o∈ops,mU n o=true)(hB:aaA ops m=true)
  (h:AA P (bQ P) (eN P) mt true ops (fun E _=>AA P (bQ P) (eN P) mt false ops K (ops.toList.drop m) E H) (ops.toList.take m) ρ bN)
  (hR:Rel n S0 w0 H0 ρ H a w) (hQ:∀ρ H a w,K ρ H->Rel n S0 w0 H0 ρ H a w->Q' .normal a w):(Code.region id ops true).wp P Q' a w:=by
 obtain⟨S,hS,hF,hG,hN,hd,hn⟩:=hR;simp only[aaA,Bool.and_eq_true,decide_eq_true_eq]at hB;obtain⟨⟨hs,ak⟩,ag⟩:=hB
 let w1:World:={ w with drawn:=w.drawn+1 }
 have F:St S w1 H:=hS.after (Nat.le_refl _) fun _ _=>rfl
 have X:Grow S w S w1:=hS.grow rfl rfl rfl (Nat.le_refl _) fun _ _=>rfl
 have af:FR S w1 ρ a:=hF.keep S.le_refl (X.kept hS);have ab:St S w1 bN:=F.drop fun k r Y=>by grind[bN]
 refine wp_region_any hm (Be (C:=Cb S w1) (R:=Rw) Rw.refl _ _ _ _ ?_);have aj:(ops.toList.take m).length=m:=by grind
 have:=Mm (Q':=Q') (g:=ops.size-m) (wb:=w1) (Sb:=S) A hs ab (K:=fun E _=>AA P (bQ P) (eN P) mt false ops K (ops.toList.drop m) E H) (fun E a' I w' Y T U J O k ah ai=>by
  have ae:k=m:=by omega
  subst ae;have hx:=Ou (Q':=Q') (wb:=w1) (Sb:=S) (Hb:=H) A (K:=K) (fun ρ H a w Y hr=>by
   obtain⟨S',Z,U,ac,aa,J,O⟩:=hr;exact hQ ρ H a w Y ⟨S',Z,U,hG.trans (X.trans ac),hN.trans aa hG.le.N,J,O⟩) (ops.toList.drop k) k I E H a' w' (fun j=>by simp) (fun o ho=>A o (Array.mem_toList_iff.1 (List.mem_of_mem_drop ho)))
   (by grind) Y ?_
  ·grind
  ·have hg:=F.grow T.1 T.2.1 T.2.2.1 T.2.2.2.1 T.2.2.2.2;exact⟨S,F.after T.2.2.2.1 T.2.2.2.2,U.keep S.le_refl (hg.kept F),hg,hY.refl _ _,J,O⟩) (ops.toList.take m) 0 (Array.replicate ops.size false) ρ a (fun j hj=>by grind) (by omega) (fun o ho=>A o (Array.mem_toList_iff.1 (List.mem_of_mem_take ho))) (by grind) h af hd hn w1 (Rw.refl w1)
 grind
def CT{C A:World->Prop}{R:World->World->Prop}{Q':Exit->Act->World->Prop}(h:∀w,A w->C w):∀(f:Nat) (listed:Array Bool) (a:Act) (w:World),nC P .any ops A R Q' f listed a w->nC P .any ops C R Q' f listed a w
 | 0,_,_,_,hw=>hw
 | f+1,_,_,_,hw=>⟨hw.1,fun i F=>K4 (fun O w' E=>⟨h w' E.1,fun J I=>CT h f _ _ _ (E.2 J I)⟩) (hw.2 i F)⟩
def Cb.mono{S S':Sg}{w w' F:World}{H:aM}(I:St S w H)(A:Grow S w S' w')(h:Cb S' w' F):Cb S w F:=
 ⟨h.1.trans A.os,h.2.1.trans A.tape,h.2.2.1.trans A.output,Nat.le_trans A.size h.2.2.2.1,fun k E=>(h.2.2.2.2 k (A.fz k E)).trans (A.same k E)⟩
def CF{Q':Exit->Act->World->Prop}(A:∀o∈ops,mU n o=true)(E:Region.noSelect ops=true)(hQ:∀ρ H a w,K ρ H->Rel n S0 w0 H0 ρ H a w->Q' .normal a w):
  ∀(f:List (Nat×Bool)) (listed:Array Bool) (ρ:Env) (H:aM) (a:Act) (w:World) (S:Sg),tX ops f listed=true ->
   Db P (bQ P) (eN P) mt ops K f ρ H->St S w H->FR S w ρ a->Grow S0 w0 S w->hY S0.N H0 H->a.defers=[]->a.tmps.size=n->∀I,Rw w I->nC P .any ops (Cb S w) Rw Q' f.length listed a I
 | [],listed,ρ,H,a,w,S,hB,h,hS,hF,hG,hN,hd,hn,I,h2=>by refine⟨by grind[tX],hQ ρ H a I h (Rel.rw ⟨S,hS,hF,hG,hN,hd,hn⟩ h2)⟩
 | (k,true)::f,listed,ρ,H,a,w,S,hB,h,hS,hF,hG,hN,hd,hn,I,h2=>by
  simp only[tX,Bool.and_eq_true]at hB;obtain⟨⟨X,hf⟩,af⟩:=hB;unfold Db at h;split at h
  ·rename_i o h0;rw[if_pos rfl]at h;have U:=A o (Array.mem_of_getElem? h0);obtain⟨z,hz,h1,O⟩:=Yl (CC:=Cb S w) (K:=fun T=>Db P (bQ P) (eN P) mt ops K f T H) (fun w Z=>⟨Z.st hS,Z.agree hS⟩) A hS hF hn U h;have next:∀v,rep S w z v->∀F,Rw w F->nC P .any ops (Cb S w) Rw Q' f.length (listed.setIfInBounds k true) (a.put o.dst v) F:=fun v hv F O=>CF A E hQ f _ _ H _ w S af hz hS (FR.put hF hv) hG hN (by grind[tL]) (by grind[CU]) F O
   rw[List.length_cons];by_cases Y:Region.wanted o (yielded ops a.tmps)=true
   ·obtain⟨v,hv,hq⟩:=h1 Y;exact pK h0 (Region.noSelect_spec E) Rw.refl (fun _ _ _=>Rw.trans) (fun _ _ Z X=>Z.rw hS X) _ listed a I (h2.cb hS) (Region.free_spec h0 hf) (by grind) (.inl ⟨Y,hq⟩) (fun F O=>next v hv F (h2.trans O))
   ·have ac:Region.wanted o (yielded ops a.tmps)=false:=by grind
    exact pK h0 (Region.noSelect_spec E) Rw.refl (fun _ _ _=>Rw.trans) (fun _ _ Z X=>Z.rw hS X) _ listed a I (h2.cb hS) (Region.free_spec h0 hf) (by grind) (.inr ⟨ac,rfl⟩) (fun F ai=>next _ (O ac) F (h2.trans ai))
  grind
 | (k,false)::f,listed,ρ,H,a,w,S,hB,h,hS,hF,hG,hN,hd,hn,I,h2=>by
  simp only[tX,Bool.and_eq_true,decide_eq_true_eq]at hB;unfold Db at h;split at h
  ·rename_i o h0;rw[if_neg (by simp)]at h;have U:=A o (Array.mem_of_getElem? h0);rw[List.length_cons];refine⟨by grind,fun i hi=>?_⟩;rw[hB.1]at hi;have ak:i=k:=by grind
   subst ak;have ab:=hS.grow h2.1 h2.2.1 h2.2.2.1 h2.2.2.2.1 h2.2.2.2.2;have an:St S I H:=hS.after h2.2.2.2.1 h2.2.2.2.2;have aj:FR S I ρ a:=hF.keep S.le_refl (ab.kept hS);have he:=DJ (S0:=S) (w0:=I) (H0:=H) (K:=Db P (bQ P) (eN P) mt ops K f) (K':=fun a' w'=>a'.defers=[]/\Cb S w w'/\∀F,Rw w' F->nC P .any ops (Cb S w) Rw Q' f.length (listed.setIfInBounds i true) a' F) (Q':=fun _ _ _=>False) A an aj (Grow.refl S I) (hY.refl _ _) hd hn U
    (fun T H' a' w' hk X=>by obtain⟨S',ag,am,al,ah,aa,ae⟩:=X;have J:Grow S w S' w':=ab.trans al;refine⟨aa,J.cb,fun F O=>?_⟩;refine CT (fun x hx=>Cb.mono hS J hx) _ _ _ _ (CF A E hQ f _ T H' a' w' S' hB.2 hk ag am (hG.trans J) (hN.trans ah hG.le.N) aa ae F O)) h
   unfold gOp;simp only[h0];by_cases Y:Region.wanted o (yielded ops a.tmps)=true
   ·rw[if_pos Y];exact AX (fun v w' hk=>hk.2) (G6 (fun a w hk=>hk.1) (he.1 Y))
   ·rw[if_neg Y];exact(he.2 (by grind)).2
  grind
def aiY{Q':Exit->Act->World->Prop}{id:Nat}{f:List (Nat×Bool)}(X:P.follows .mixedOrders=true)(F:∀o∈ops,mU n o=true)(T:Yh ops f=true)
  (h:Db P (bQ P) (eN P) mt ops K f ρ H)
  (Y:Rel n S0 w0 H0 ρ H a w) (hQ:∀ρ H a w,K ρ H->Rel n S0 w0 H0 ρ H a w->Q' .normal a w):(Code.region id ops true).wp P Q' a w:=by
 obtain⟨S,I,U,hG,hN,hd,hn⟩:=Y;simp only[Yh,Bool.and_eq_true,decide_eq_true_eq]at T;obtain⟨⟨Z,aa⟩,E⟩:=T
 let w1:World:={ w with drawn:=w.drawn+1 }
 have J:St S w1 H:=I.after (Nat.le_refl _) fun _ _=>rfl
 have A:Grow S w S w1:=I.grow rfl rfl rfl (Nat.le_refl _) fun _ _=>rfl
 have O:FR S w1 ρ a:=U.keep S.le_refl (A.kept I);refine wp_region_any X (Be (C:=Cb S w1) (R:=Rw) Rw.refl _ _ _ _ ?_);have:=CF (Q':=Q') F Z hQ f (Array.replicate ops.size false) ρ H a w1 S E h J O (hG.trans A) hN hd hn w1 (Rw.refl w1)
 grind
structure Pin(S:Sg)(w:World)(Hp:aM):Prop where
 rows:Cj S w Hp
 fz:∀k r,Hp k=some r->∀g,blk (S.loc k)=some g->S.fz g/\¬S.ro g
 disj:∀k k' r r',Hp k=some r->Hp k'=some r'->k≠k'->∀g,blk (S.loc k)=some g->blk (S.loc k')≠some g
def azI(S:Sg)(Hp:aM)(g:Nat):Prop:=∃k r,Hp k=some r/\blk (S.loc k)=some g
def Sg.unpin(S:Sg)(Hp:aM):Sg:={ S with fz:=fun g=>S.fz g/\¬azI S Hp g }
def Sg.pin(S:Sg)(Hp:aM):Sg:={ S with fz:=fun g=>S.fz g\/azI S Hp g }
def Sg.le_unpin(S:Sg)(Hp:aM):S.le (S.unpin Hp):=⟨fun _ h=>h,Nat.le_refl _,fun _ _=>rfl,fun _ _=>rfl⟩
def Sg.unpin_le(S:Sg)(Hp:aM):(S.unpin Hp).le S:=⟨fun _ h=>h,Nat.le_refl _,fun _ _=>rfl,fun _ _=>rfl⟩
def Sg.le_pin(S:Sg)(Hp:aM):S.le (S.pin Hp):=⟨fun _ h=>h,Nat.le_refl _,fun _ _=>rfl,fun _ _=>rfl⟩
theorem Pin.merge{Hp U:aM}(h:Pin S w Hp)(I:St S w H)(T:∀k r,U k=some r->H k=some r\/Hp k=some r):St (S.unpin Hp) w U:=by
 have Z:∀k r,U k=some r->RowOK S w k r:=fun k r A=>by
  rcases T k r A with h1|h1
  ·exact I.rows k r h1
  ·exact h.rows k r h1
 refine⟨fun k A=>⟨I.ι k A,fun⟨i,r,hi,E⟩=>(h.fz i r hi k E).2 A⟩,fun k A=>I.l9 k A.1,fun k r A=>(Z k r A).keep (S.le_unpin Hp) (iT.refl S w) (fun _ _=>rfl),fun k r A g E Y=>?_,fun k k' r r' A X O g E F=>?_,I.tabs⟩
 ·rcases T k r A with h1|h1
  ·exact I.free k r h1 g E Y.1
  ·exact Y.2 ⟨k,r,h1,E⟩
 ·rcases T k r A with h1|h1 <;> rcases T k' r' X with J|J
  ·exact I.disj k k' r r' h1 J O g E F
  ·exact I.free k r h1 g E (h.fz k' r' J g F).1
  ·exact I.free k' r' J g F (h.fz k r h1 g E).1
  ·exact h.disj k k' r r' h1 J O g E F
def Pin.keep{Hp:aM}{S':Sg}{w':World}(h:Pin S w Hp)(T:St S w H)(A:Grow S w S' w'):Pin S' w' Hp:=by
 refine⟨fun k r E=>(h.rows k r E).keep A.le (A.kept T) (fun g F=>A.same g (h.fz k r E g F).1),fun k r E g F=>?_,fun k k' r r' E I O g F=>?_⟩
 ·rw[A.le.loc k (h.rows k r E).lt]at F;have h1:=h.fz k r E g F;refine⟨A.fz g h1.1,fun U=>?_⟩;rcases A.newro g U with J|J
  ·exact h1.2 J
  ·exact J h1.1
 ·rw[A.le.loc k (h.rows k r E).lt]at F;rw[A.le.loc k' (h.rows k' r' I).lt];exact h.disj k k' r r' E I O g F
def Cb.pin{wb w:World}{H Hp:aM}(E:St S wb H)(F:Pin S wb Hp)(h:Cb S wb w):St (S.unpin Hp) w Hp/\Agree (S.unpin Hp) Hp wb w:=by have I:Grow S wb S w:=⟨S.le_refl,fun _ h=>h,h.1,h.2.1,h.2.2.1,h.2.2.2.1,h.2.2.2.2,fun _ h=>.inl h⟩;exact⟨(F.keep E I).merge (h.st E) (fun k r A=>.inr A),⟨fun k A=>h.2.2.2.2 k (E.ι k A),fun k r A g J=>h.2.2.2.2 g (F.fz k r A g J).1⟩⟩
def wL{Q':Exit->Act->World->Prop}{Hp:aM}(J:∀o∈ops,mU n o=true){i m:Nat}{o:Oper}{A:Array Bool}{K1:Env->aM->Prop}(h0:ops[i]?=some o)(h:aop P (bQ P) (eN P) mt false ops o ρ H K1)
  (Z:St S w H) (hP:Pin S w Hp) (hF:FR S w ρ a) (hd:a.defers=[]) (hn:a.tmps.size=n) {O:World} (U:Rw w O)
  (next:∀I H' E w' S',K1 I H'->St S' w' H'->Pin S' w' Hp->FR S' w' I E->Grow S w S' w'->hY S.N H H'->E.defers=[]->E.tmps.size=n->∀F,Rw w' F->nC P .any ops (Cb S' w') Rw Q' m (A.setIfInBounds i true) E F):
  gOp P ops i (fun E w'=>Cb S w w'/\∀F,Rw w' F->nC P .any ops (Cb S w) Rw Q' m (A.setIfInBounds i true) E F) a O:=by
 have ai:=J o (Array.mem_of_getElem? h0);have T:=Z.grow U.1 U.2.1 U.2.2.1 U.2.2.2.1 U.2.2.2.2;have ab:St S O H:=Z.after U.2.2.2.1 U.2.2.2.2;have aj:Pin S O Hp:=hP.keep Z T;have ag:FR S O ρ a:=hF.keep S.le_refl (T.kept Z);have he:=DJ (S0:=S) (w0:=O) (H0:=H) (K:=K1) (K':=fun E w'=>E.defers=[]/\Cb S w w'/\∀F,Rw w' F->nC P .any ops (Cb S w) Rw Q' m (A.setIfInBounds i true) E F) (Q':=fun _ _ _=>False) J ab ag (Grow.refl S O) (hY.refl _ _) hd hn ai
  (fun I H' E w' hk hr=>by obtain⟨S',ae,ah,aa,af,Y,ac⟩:=hr;have X:Grow S w S' w':=T.trans aa;refine⟨Y,X.cb,fun F h3=>?_⟩;exact CT (fun x hx=>Cb.mono Z X hx) _ _ _ _ (next I H' E w' S' hk ae (aj.keep ab aa) ah X af Y ac F h3)) h
 unfold gOp;simp only[h0];by_cases hw:Region.wanted o (yielded ops a.tmps)=true
 ·rw[if_pos hw];exact AX (fun v w' hk=>hk.2) (G6 (fun a w hk=>hk.1) (he.1 hw))
 ·rw[if_neg hw];exact(he.2 (by grind)).2
def tR{q:Bool}{k:Nat}{A:Env->aM->Prop}(h:BI P (bQ P) (eN P) mt q ops k ρ H A):∃o,ops[k]?=some o/\aop P (bQ P) (eN P) mt q ops o ρ H A:=by grind[BI]
def lM{Q':Exit->Act->World->Prop}{Hp:aM}(A:∀o∈ops,mU n o=true)(E:Region.noSelect ops=true)
  (hQ:∀ρ H a w S,K ρ H->St S w H->Pin S w Hp->FR S w ρ a->Grow S0 w0 S w->hY S0.N H0 H->a.defers=[]->a.tmps.size=n->Q' .normal a w):
  ∀(t:Mx) (m:Nat) (listed:Array Bool) (ρ:Env) (H:aM) (a:Act) (w:World) (S:Sg),gJ ops t m listed=true ->
   mL P (bQ P) (eN P) mt ops K Hp t ρ H->St S w H->Pin S w Hp->FR S w ρ a->Grow S0 w0 S w->hY S0.N H0 H->a.defers=[]->a.tmps.size=n->∀w2,Rw w w2->nC P .any ops (Cb S w) Rw Q' m listed a w2
 | .nil,m,listed,ρ,H,a,w,S,hB,h,hS,hP,hF,hG,hN,hd,hn,w2,h2=>by
  cases m with
  | succ m=>grind[gJ]
  | zero=>have hg:=hS.grow h2.1 h2.2.1 h2.2.2.1 h2.2.2.2.1 h2.2.2.2.2;exact⟨by grind[gJ],hQ ρ H a w2 S h (hS.after h2.2.2.2.1 h2.2.2.2.2) (hP.keep hS hg) (hF.keep S.le_refl (hg.kept hS)) (hG.trans hg) hN hd hn⟩
 | .q k t,m,listed,ρ,H,a,w,S,hB,h,hS,hP,hF,hG,hN,hd,hn,w2,h2=>by
  cases m with
  | zero=>simp[gJ]at hB
  | succ m=>
   simp only[gJ,Bool.and_eq_true]at hB;obtain⟨⟨hr,hf⟩,ae⟩:=hB;obtain⟨o,h0,h⟩:=tR h;have ah:=A o (Array.mem_of_getElem? h0);obtain⟨z,hz,h1,h3⟩:=DB (S:=S.unpin Hp) (CC:=Cb S w) (K:=fun F _=>mL P (bQ P) (eN P) mt ops K Hp t F H) (fun w hc=>hc.pin hS hP) A (hP.merge hS fun k r hk=>.inr hk) (hF.keep (S.le_unpin Hp) (iT.refl S w)) hn ah h;have next:∀v,rep (S.unpin Hp) w z v->∀Z,Rw w Z->nC P .any ops (Cb S w) Rw Q' m (listed.setIfInBounds k true) (a.put o.dst v) Z:=fun v hv Z h3=>lM A E hQ t m _ _ H _ w S ae hz hS hP (FR.put hF (oY (S.unpin_le Hp) (iT.refl (S.unpin Hp) w) _ _ hv)) hG hN (by grind[tL]) (by grind[CU]) Z h3
   by_cases hw:Region.wanted o (yielded ops a.tmps)=true
   ·obtain⟨v,hv,hq⟩:=h1 hw;exact pK h0 (Region.noSelect_spec E) Rw.refl (fun _ _ _=>Rw.trans) (fun _ _ hc hr=>hc.rw hS hr) _ listed a w2 (h2.cb hS) (Region.free_spec h0 hf) (by grind) (.inl ⟨hw,hq⟩) (fun Z h3=>next v hv Z (h2.trans h3))
   ·have ac:Region.wanted o (yielded ops a.tmps)=false:=by grind
    exact pK h0 (Region.noSelect_spec E) Rw.refl (fun _ _ _=>Rw.trans) (fun _ _ hc hr=>hc.rw hS hr) _ listed a w2 (h2.cb hS) (Region.free_spec h0 hf) (by grind) (.inr ⟨ac,rfl⟩) (fun Z af=>next _ (h3 ac) Z (h2.trans af))
 | .a1 k t,m,listed,ρ,H,a,w,S,hB,h,hS,hP,hF,hG,hN,hd,hn,w2,h2=>by
  cases m with
  | zero=>simp[gJ]at hB
  | succ m=>simp only[gJ,Bool.and_eq_true,decide_eq_true_eq]at hB;obtain⟨o,h0,g⟩:=tR h;refine⟨by grind,fun i hi=>?_⟩;rw[hB.1]at hi;simp only[List.mem_cons,List.not_mem_nil,or_false]at hi;subst hi;exact wL A h0 g hS hP hF hd hn h2 fun F H' a' w' S' hk O Y X U T I J Z h3=>lM A E hQ t m _ F H' a' w' S' hB.2 hk O Y X (hG.trans U) (hN.trans T hG.le.N) I J Z h3
 | .a2 k t k' t',m,listed,ρ,H,a,w,S,hB,h,hS,hP,hF,hG,hN,hd,hn,w2,h2=>by
  cases m with
  | zero=>simp[gJ]at hB
  | succ m=>
   simp only[gJ,Bool.and_eq_true,decide_eq_true_eq]at hB;obtain⟨h,h'⟩:=h;obtain⟨o,h0,g⟩:=tR h;obtain⟨o',aa,g'⟩:=tR h';refine⟨by grind,fun i hi=>?_⟩;rw[hB.1.1]at hi;simp only[List.mem_cons,List.not_mem_nil,or_false]at hi;rcases hi with rfl|rfl
   ·exact wL A h0 g hS hP hF hd hn h2 fun F H' a' w' S' hk O Y X U T I J Z h3=>lM A E hQ t m _ F H' a' w' S' hB.1.2 hk O Y X (hG.trans U) (hN.trans T hG.le.N) I J Z h3
   ·exact wL A aa g' hS hP hF hd hn h2 fun F H' a' w' S' hk O Y X U T I J Z h3=>lM A E hQ t' m _ F H' a' w' S' hB.2 hk O Y X (hG.trans U) (hN.trans T hG.le.N) I J Z h3
 | .a3 k t k' t' k'' t'',m,listed,ρ,H,a,w,S,hB,h,hS,hP,hF,hG,hN,hd,hn,w2,h2=>by
  cases m with
  | zero=>simp[gJ]at hB
  | succ m=>
   simp only[gJ,Bool.and_eq_true,decide_eq_true_eq]at hB;obtain⟨h,h',ag⟩:=h;obtain⟨o,h0,g⟩:=tR h;obtain⟨o',aa,g'⟩:=tR h';obtain⟨aj,ab,ai⟩:=tR ag;refine⟨by grind,fun i hi=>?_⟩;rw[hB.1.1.1]at hi;simp only[List.mem_cons,List.not_mem_nil,or_false]at hi;rcases hi with rfl|rfl|rfl
   ·exact wL A h0 g hS hP hF hd hn h2 fun F H' a' w' S' hk O Y X U T I J Z h3=>lM A E hQ t m _ F H' a' w' S' hB.1.1.2 hk O Y X (hG.trans U) (hN.trans T hG.le.N) I J Z h3
   ·exact wL A aa g' hS hP hF hd hn h2 fun F H' a' w' S' hk O Y X U T I J Z h3=>lM A E hQ t' m _ F H' a' w' S' hB.1.2 hk O Y X (hG.trans U) (hN.trans T hG.le.N) I J Z h3
   ·exact wL A ab ai hS hP hF hd hn h2 fun F H' a' w' S' hk O Y X U T I J Z h3=>lM A E hQ t'' m _ F H' a' w' S' hB.2 hk O Y X (hG.trans U) (hN.trans T hG.le.N) I J Z h3
def Yb{Q':Exit->Act->World->Prop}{id:Nat}{l:List Nat}{t:Mx}(hm:P.follows .mixedOrders=true)(ac:∀o∈ops,mU n o=true)(hl:∀k,k∈l->(H k).isSome=true)(hB:Ix ops t=true)
  (h:∀Hp O:aM,(∀k,k∈l->Hp k=H k)->(∀k,k∉l->O k=H k)->(∀k,k∉l->Hp k=none)->(∀k,k∈l->O k=none)->mL P (bQ P) (eN P) mt ops (tK l H K) Hp t ρ O)
  (hR:Rel n S0 w0 H0 ρ H a w) (hQ:∀ρ H a w,K ρ H->Rel n S0 w0 H0 ρ H a w->Q' .normal a w):(Code.region id ops true).wp P Q' a w:=by
 obtain⟨S,hS,hF,hG,hN,hd,hn⟩:=hR;simp only[Ix,Bool.and_eq_true]at hB;obtain⟨hs,aa⟩:=hB
 let Hp:aM:=fun k=>if k∈l then H k else none
 let O:aM:=fun k=>if k∈l then none else H k
 have au:∀k,k∈l->Hp k=H k:=fun k A=>if_pos A
 have aj:∀k,k∉l->Hp k=none:=fun k A=>if_neg A
 have ar:∀k,k∉l->O k=H k:=fun k A=>if_neg A
 have af:∀k,k∈l->O k=none:=fun k A=>if_pos A
 have I:∀k r,Hp k=some r->H k=some r/\k∈l:=fun k r A=>by grind
 have J:∀k r,O k=some r->H k=some r/\k∉l:=fun k r A=>by grind
 let w1:World:={ w with drawn:=w.drawn+1 }
 have E:St S w1 H:=hS.after (Nat.le_refl _) fun _ _=>rfl
 have ag:Grow S w S w1:=hS.grow rfl rfl rfl (Nat.le_refl _) fun _ _=>rfl
 have ax:FR S w1 ρ a:=hF.keep S.le_refl (ag.kept hS);have av:St (S.pin Hp) w1 O:=by
  refine⟨fun k A=>.inl (E.ι k A),fun k A=>?_,fun k r A=>(E.rows k r (J k r A).1).keep (S.le_pin Hp) (iT.refl S w1) (fun _ _=>rfl),fun k r A g T hf=>?_,fun k k' r r' A U X g T Z=>E.disj k k' r r' (J k r A).1 (J k' r' U).1 X g T Z,E.tabs⟩
  ·rcases A with h1|⟨i,r,hi,T⟩
   ·exact E.l9 k h1
   ·exact(E.rows i r (I i r hi).1).block_lt T
  ·rcases hf with h1|⟨i,r',hi,Z⟩
   ·exact E.free k r (J k r A).1 g T h1
   ·exact E.disj k i r r' (J k r A).1 (I i r' hi).1 (fun e=>(J k r A).2 (e▸(I i r' hi).2)) g T Z
 have an:Pin (S.pin Hp) w1 Hp:=by refine⟨fun k r A=>(E.rows k r (I k r A).1).keep (S.le_pin Hp) (iT.refl S w1) (fun _ _=>rfl),fun k r A g T=>⟨.inr ⟨k,r,A,T⟩,fun h1=>E.free k r (I k r A).1 g T (E.ι g h1)⟩,fun k k' r r' A U X g T=>E.disj k k' r r' (I k r A).1 (I k' r' U).1 X g T⟩
 refine wp_region_any hm (Be (C:=Cb (S.pin Hp) w1) (R:=Rw) Rw.refl _ _ _ _ ?_);have:=lM (Q':=Q') (Hp:=Hp) (K:=tK l H K) (S0:=S.pin Hp) (w0:=w1) (H0:=O) ac hs (fun ao H' a' w' S' A ak aq aw F ab ah ai=>by
  have Y:∀k,k∈l->H' k=none:=fun k A=>by obtain⟨r,hr⟩:=Option.isSome_iff_exists.1 (hl k A);exact ab k (hS.rows k r hr).lt (af k A)
  let Hm:aM:=fun k=>if k∈l then H k else H' k
  have am:∀k,k∈l->Hm k=H k:=fun k A=>if_pos A
  have ae:∀k,k∉l->Hm k=H' k:=fun k A=>if_neg A
  refine hQ ao Hm a' w' (A Y Hm am ae) ⟨S'.unpin Hp,aq.merge ak (fun k r A=>?_),aw.keep (S'.le_unpin Hp) (iT.refl S' w'),?_,?_,ah,ai⟩
  ·grind
  ·refine hG.trans (ag.trans ⟨⟨F.le.ro, F.le.N, F.le.loc, F.le.sz⟩, fun k A => ⟨F.fz k (.inl A), fun ⟨i, r, hi, hb⟩ => by
    have ap:=E.rows i r (I i r hi).1;have e:S'.loc i=S.loc i:=F.le.loc i ap.lt;rw[show(S'.loc i)=S.loc i from e]at hb;exact E.free i r (I i r hi).1 k hb A⟩,F.os,F.tape,F.output,F.size,fun k A=>F.same k (.inl A),fun k A=>by
    rcases F.newro k A with h2|h2
    ·exact .inl h2
    ·exact .inr fun h3=>h2 (.inl h3)⟩)
  ·intro k A h0;have hH:=hN k A h0;by_cases al:k∈l
   ·grind
   ·rw[ae k al];exact ab k (Nat.lt_of_lt_of_le A hG.le.N) (by grind)) t ops.size (Array.replicate ops.size false) ρ O a w1 (S.pin Hp) aa (h Hp O au ar aj af) av an (ax.keep (S.le_pin Hp) (iT.refl S w1)) (Grow.refl _ _) (hY.refl _ _) hd hn w1 (Rw.refl w1)
 omega
end
end Go.Aw
end
section
namespace Go.Aw
open Go.RowKit
section
variable{P:Program}{n:Nat}{S0:Sg}{w0:World}{H0:aM}{mt:Nat->Bool}{ops:Array Oper}{K:Env->aM->Prop}{ρ:Env}{H:aM}{a:Act}{w:World}{S:Sg}
def KS(A:∀o∈ops,mU n o=true){Q':Exit->Act->World->Prop}(J:∀ρ H a w,K ρ H->Rel n S0 w0 H0 ρ H a w->Q' .normal a w):
  ∀(l:List Oper) (ρ:Env) (H:aM) (a:Act) (w:World),(∀o∈l,mU n o=true)->AA P (bQ P) (eN P) mt false ops K l ρ H->Rel n S0 w0 H0 ρ H a w->wpList P ops Q' l a w
 | [],ρ,H,a,w,_,h,hR=>J ρ H a w h hR
 | o::rest,ρ,H,a,w,hl,h,hR=>by
  obtain⟨S,U,O,Z,hN,hd,T⟩:=hR;have I:=DJ (K':=wpList P ops Q' rest) (Q':=Q') A U O Z hN hd T (hl o (by simp))
   (fun E H' Y w' hk X=>KS A J rest E H' Y w' (fun o ho=>hl o (by grind)) hk X) h
  unfold wpList;by_cases F:Region.wanted o (yielded ops a.tmps)=true
  ·rw[if_pos F];exact .inl (I.1 F)
  ·rw[if_neg F];exact I.2 (by grind)
def Cls(S:Sg)(H:aM)(w1 w:World):Prop:=
 w.os=w1.os/\w.tape=w1.tape/\w.output=w1.output/\w1.heap.size<=w.heap.size/\∀k,k<w1.heap.size->w.heap[k]?=w1.heap[k]?
def Cls.st{w1:World}(A:St S w1 H)(h:Cls S H w1 w):St S w H:=A.after h.2.2.2.1 h.2.2.2.2
theorem Cls.grow{w1:World}(A:St S w1 H)(h:Cls S H w1 w):Grow S w1 S w:=A.grow h.1 h.2.1 h.2.2.1 h.2.2.2.1 h.2.2.2.2
def Cls.agree{w1:World}(A:St S w1 H)(h:Cls S H w1 w):Agree S H w1 w:=
 ⟨(h.grow A).kept A,fun k r F g E=>h.2.2.2.2 g ((A.rows k r F).block_lt E)⟩
def WB{P:Program}{o:Oper}{a:Act}{w w1:World}{v:Value}(A:Cls S H w1 w)(h:o.quietAt P a (Rw w) w v):o.quietAt P a (Cls S H w1) w v:=by
 unfold Oper.quietAt at *;generalize (execOp a.eval o).run P w=r at *;cases r with
 | ok m w'=>
  cases m <;> simp only[Oper.quietUpon]at h |-
  case value u=>exact h
  case skip=>exact h
  case enter f args=>exact⟨h.1,h.2.mono fun e X ⟨J,T,F,I,U,O⟩=>⟨J,T.trans A.1,F.trans A.2.1,I.trans A.2.2.1,Nat.le_trans A.2.2.2.1 U,fun k E=>(O k (Nat.lt_of_lt_of_le E A.2.2.2.1)).trans (A.2.2.2.2 k E)⟩⟩
 | halt x w'=>grind[Oper.quietUpon]
def K6{w1:World}(E:∀o∈ops,mU n o=true)(J:St S w1 H):∀(l:List Oper) (ρ:Env) (a:Act),(∀o∈l,mU n o=true)->AA P (bQ P) (eN P) mt true ops K l ρ H->FR S w1 ρ a->a.defers=[]->a.tmps.size=n ->
  wpQuiet P ops (Cls S H w1) (fun F=>∃A,K A H/\FR S w1 A F/\F.defers=[]/\F.tmps.size=n) l a
 | [],ρ,a,_,h,hF,hd,hn=>⟨ρ,h,hF,hd,hn⟩
 | o::rest,ρ,a,hl,h,hF,hd,hn=>by
  obtain⟨z,X,h1,Z⟩:=DB (CC:=Cls S H w1) (fun w I=>⟨I.st J,I.agree J⟩) E J hF hn (hl o (by simp)) h;have next:∀v,rep S w1 z v->wpQuiet P ops (Cls S H w1) (fun F=>∃A,K A H/\FR S w1 A F/\F.defers=[]/\F.tmps.size=n) rest (a.put o.dst v):=fun v O=>K6 E J rest _ _ (fun o Y=>hl o (by grind)) X (FR.put hF O) (by grind[tL]) (by grind[CU])
  unfold wpQuiet;by_cases T:Region.wanted o (yielded ops a.tmps)=true
  ·rw[if_pos T];obtain⟨v,O,U⟩:=h1 T;exact⟨v,fun w I=>WB I (U w I),next v O⟩
  grind
end
def BW{P:Program}{ops:Array Oper}{C:World->Prop}{Q Q':Act->Prop}(E:∀a,Q a->Q' a):∀(l:List Oper) (a:Act),wpQuiet P ops C Q l a->wpQuiet P ops C Q' l a
 | [],a,h=>E a h
 | o::rest,a,h=>by
  unfold wpQuiet at h |-;split
  ·rename_i A;rw[if_pos A]at h;exact Oper.quiet_mono (fun F I=>BW E rest F I) h
  ·rename_i A;rw[if_neg A]at h;exact BW E rest _ h
def CP(n:Nat):Code->Bool
 | .region _ ops _=>ops.all (mU n)
 | .seq a b=>CP n a&&CP n b
 | .cond c a b=>opB n c&&(CP n a&&CP n b)
 | .block _ c=>CP n c
 | .loop c=>CP n c
 | .scope c=>CP n c
 | _=>true
def agP(n:Nat)(S0:Sg)(w0:World)(H0:aM)(Q:Ex->Env->aM->Prop):Exit->Act->World->Prop
 | .normal,a,w=>∃ρ H,Q .normal ρ H/\Rel n S0 w0 H0 ρ H a w
 | .exit id,a,w=>∃ρ H,Q (.exit id) ρ H/\Rel n S0 w0 H0 ρ H a w
 | .ret,a,w=>∃ρ H,Q .ret ρ H/\Rel n S0 w0 H0 ρ H a w
 | _,_,_=>False
def rJ{P:Program}{n:Nat}{S0:Sg}{w0:World}{H0:aM}{mt:Nat->Bool}(T:P.follows .mixedOrders=true):∀(c:Code) (Q:Ex->Env->aM->Prop) (ρ:Env) (H:aM) (a:Act) (w:World),CP n c=true ->
  awp P (bQ P) (eN P) mt c Q ρ H->Rel n S0 w0 H0 ρ H a w->c.wp P (agP n S0 w0 H0 Q) a w
 | .skip,Q,ρ,H,a,w,_,h,A=>wp_skip ⟨ρ,H,h,A⟩
 | .region id ops false,Q,ρ,H,a,w,hb,h,A=>by
  rw[KW]at h;have E:∀o∈ops,mU n o=true:=fun o Z=>Array.all_eq_true_iff_forall_mem.1 hb o Z
  exact wp_region_list (KS E (fun ρ H a w O U=>⟨ρ,H,O,U⟩) ops.toList ρ H a w (fun o Z=>E o (Array.mem_toList_iff.1 Z)) h A)
 | .region id ops true,Q,ρ,H,a,w,hb,h,A=>by
  rw[Tv]at h;have E:∀o∈ops,mU n o=true:=fun o Z=>Array.all_eq_true_iff_forall_mem.1 hb o Z
  rcases h with⟨_,aa,h⟩|⟨hB,h⟩|⟨f,hB,h⟩|⟨l,t,hl,hB,h⟩
  ·obtain⟨S,hS,hF,hG,hN,hd,hn⟩:=A
   let w1:World:={ w with drawn:=w.drawn+1 }
   have X:St S w1 H:=hS.after (Nat.le_refl _) fun _ _=>rfl
   have ab:Grow S w S w1:=hS.grow rfl rfl rfl (Nat.le_refl _) fun _ _=>rfl
   have ah:FR S w1 ρ a:=hF.keep S.le_refl (ab.kept hS);refine wp_region_quiet (C:=Cls S H w1) T aa ⟨rfl,rfl,rfl,Nat.le_refl _,fun _ _=>rfl⟩ ?_;have:=K6 E X ops.toList ρ a (fun o Z=>E o (Array.mem_toList_iff.1 Z)) h ah hd hn;refine BW (fun a' ⟨J,O,ag,ac,ae⟩ w' hc=>?_) ops.toList a this;exact⟨J,H,O,S,hc.st X,ag.keep S.le_refl ((hc.grow X).kept X),hG.trans (ab.trans (hc.grow X)),hN,ac,ae⟩
  ·exact VV T E hB h A fun ρ H a w O U=>⟨ρ,H,O,U⟩
  ·exact aiY T E hB h A fun ρ H a w O U=>⟨ρ,H,O,U⟩
  ·exact Yb T E hl hB h A fun ρ H a w O U=>⟨ρ,H,O,U⟩
 | .seq c d,Q,ρ,H,a,w,hb,h,A=>by
  simp only[CP,Bool.and_eq_true]at hb;rw[Z9]at h;refine wp_seq (wp_mono (rJ T c _ ρ H a w hb.1 h A) fun e a' w' F=>?_);cases e <;> simp only[agP,Exit.then]at F |-
  case normal=>obtain⟨J,H',O,U⟩:=F;exact rJ T d Q J H' a' w' hb.2 O U
  case exit id=>exact F
  case ret=>exact F
 | .cond c x y,Q,ρ,H,a,w,hb,h,A=>by
  simp only[CP,Bool.and_eq_true]at hb;rw[VI]at h;unfold B5 at h;split at h
  ·rename_i t ht;obtain⟨S,hS,hF,hG,hN,hd,hn⟩:=A;have e:=dM hF (x:=c) (hn▸hb.1);rw[ht]at e;simp only[rep]at e;have A:Rel n S0 w0 H0 ρ H a w:=⟨S,hS,hF,hG,hN,hd,hn⟩;exact wp_cond_split e (fun ht=>rJ T x Q ρ H a w hb.2.1 (h.1 ht) A) (fun ht=>rJ T y Q ρ H a w hb.2.2 (h.2 ht) A)
  grind
 | .block id c,Q,ρ,H,a,w,hb,h,A=>by
  rw[O7]at h;refine wp_block (wp_mono (rJ T c _ ρ H a w hb h A) fun e a' w' F=>?_);cases e <;> simp only[agP,Exit.inBlock]at F |-
  case normal=>exact F
  case ret=>exact F
  case exit i=>
   obtain⟨J,H',O,U⟩:=F;simp only[Ex.blk]at O
   grind
 | .loop c,Q,ρ,H,a,w,hb,h,A=>by
  rw[Ut]at h;obtain⟨I,μ,h0,Y⟩:=h;refine wp_loop_ghost (fun m a w=>∃ρ H,I ρ H/\μ ρ H=m/\Rel n S0 w0 H0 ρ H a w) (μ ρ H) ⟨ρ,H,h0,rfl,A⟩ ?_;rintro m a' w' ⟨J,H',hI,rfl,af⟩;refine wp_mono (rJ T c _ J H' a' w' hb (Y J H' hI) af) fun e a2 w2 F=>?_
  cases e <;> simp only[agP,Exit.then]at F |-
  case normal=>obtain⟨aj,H2,⟨O,ai⟩,U⟩:=F;grind
  case exit id=>exact F
  case ret=>exact F
 | .exit id,Q,ρ,H,a,w,_,h,A=>wp_exit ⟨ρ,H,h,A⟩
 | .ret,Q,ρ,H,a,w,_,h,A=>wp_ret ⟨ρ,H,h,A⟩
 | .rangeFunc ..,_,_,_,_,_,_,h,_=>by grind[awp]
 | .scope c,Q,ρ,H,a,w,hb,h,A=>by
  rw[Nv]at h;refine wp_scope_straight (wp_mono (rJ T c _ ρ H a w hb h A) fun e a' w' F=>?_);cases e <;> simp only[agP,Exit.noGoto]at F |-
  case normal=>exact F
  case exit id=>exact F
  case ret=>exact F
 | .label _,Q,ρ,H,a,w,_,h,A=>wp_label ⟨ρ,H,h,A⟩
 | .goto _,_,_,_,_,_,_,h,_=>by grind[awp]
 | .refuse _,_,_,_,_,_,_,h,_=>by grind[awp]
def I6(P:Program)(ρ:Env)(H:aM):List ResultVar->(List AV->Prop)->Prop
 | [],K=>K []
 | .tmp t::r,K=>I6 P ρ H r fun l=>K (ρ t::l)
 | .cell t ty::r,K=>match ldT P ty with
   | some l=>sM none H l (ρ t) fun x=>I6 P ρ H r fun xs=>K (x::xs)
   | none=>False
def Z8(R:AV->Prop):List AV->Prop
 | [x]=>R x
 | l=>R (.tup l)
def MH(P:Program)(rs:List ResultVar)(R:AV->aM->Prop):Ex->Env->aM->Prop
 | .exit _,_,_=>False
 | _,ρ,H=>I6 P ρ H rs (Z8 fun x=>R x H)
def ayT(n:Nat):ResultVar->Bool
 | .tmp t=>decide (t<n)
 | .cell t _=>decide (t<n)
def El(fn:Func)(c:Code)(m:Nat):Bool:=CP fn.ntmps c&&fn.results.toList.all (ayT fn.ntmps)&&decide (m<=fn.ntmps)
section
variable{P:Program}{S:Sg}{H:aM}{w:World}{ρ:Env}{a:Act}
def adM{G:Option Bool}{l:Option Nat}{x:AV}{K:AV->Prop}(h:sM G H l x K){u:Value}(A:rep S w x u):∃ad,u=.pointer (some ad):=by
 unfold sM at h
 grind[rep]
def QA(tmps:Array Value):ResultVar->Sem Value
 | .tmp t=>pure (tmps.getD t undef)
 | .cell b t=>do loadVar t (<-asAddr (tmps.getD b undef))
theorem Y5(fn:Func)(A:Array Value):results fn A=(do
 let vs <-fn.results.mapM (QA A)
 pure (if h:vs.size=1 then vs[0]else .tuple vs)):=by rfl
def CD(J:Cj S w H)(E:FR S w ρ a):∀(O:List ResultVar) (K:List AV->Prop),(∀r∈O,ayT a.tmps.size r=true)->I6 P ρ H O K ->
  ∃l vs,K l/\(O.mapM (QA a.tmps)).run P w=.ok vs w/\bR S w l vs
 | [],K,_,h=>⟨[],[],h,by simp,by rfl⟩
 | .tmp t::r,K,hb,h=>by
  simp only[I6]at h;obtain⟨l,vs,h1,X,U⟩:=CD J E r _ (fun x T=>hb x (by simp[T])) h;have I:t<a.tmps.size:=by simpa[ayT]using hb (.tmp t) (by simp)
  refine⟨_,a.tmps.getD t undef::vs,h1,?_,?_⟩
  ·rw[List.mapM_cons];simp only[QA,Sem.run_bind,Sem.run_pure,Result.andThen_ok];rw[X];rfl
  ·simp only[bR];exact⟨_,_,rfl,E t I,U⟩
 | .cell t ty::r,K,hb,h=>by
  simp only[I6]at h;split at h
  ·rename_i l Z;have I:t<a.tmps.size:=by simp_all[ayT]
   obtain⟨z,Y,hd⟩:=IK (S:=S) (w:=w) Z J h;obtain⟨v,hv,F⟩:=hd trivial _ (E t I);obtain⟨ad,e⟩:=adM h (E t I);have A:=F w (Agree.refl S H w);rw[e]at A;simp only[Instr.loadAt,Instr.sureAddr,pure_bind]at A;obtain⟨l',vs,h1,X,U⟩:=CD J E r _ (fun x T=>hb x (by grind)) Y;refine⟨_,v::vs,h1,?_,?_⟩
   ·simp_all[asAddr,QA]
   grind[bR]
  grind
def bQ.body{f:FuncId}{fn:Func}{c:Code}{args:List AV}{R:AV->aM->Prop}(mt:Nat->Bool)(hm:P.follows .mixedOrders=true)(hf:P.funcs[f]?=some fn)(hb:fn.body=some c)(hc:El fn c args.length=true)
  (h:awp P (bQ P) (eN P) mt c (MH P fn.results.toList R) (Ho args) H):bQ P f args H R:=by
 intro S w vals hS ha;simp only[El,Bool.and_eq_true,decide_eq_true_eq]at hc;obtain⟨⟨I,ae⟩,ac⟩:=hc;have ag:=jE _ _ ha;refine calls_of_wp hf hb (wp_mono (rJ (n:=fn.ntmps) (S0:=S) (w0:=w) (H0:=H) hm c _ _ H _ w I h ⟨S,hS,?_,Grow.refl S w,hY.refl _ _,rfl,?_⟩) ?_)
 ·intro t ht;by_cases e:t<args.length
  ·obtain⟨u,h1,E⟩:=Gt args vals t ha e;simp_all[Ho]
  grind[Ho,rep]
 ·grind
 ·intro e X w' U;have O:∀A H',I6 P A H' fn.results.toList (Z8 fun x=>R x H')->Rel fn.ntmps S w H A H' X w'->X.defers=[]/\∃v,(results fn X.tmps).run P w'=.ok v w'/\aA7 S w H R (.returned v) w':=by
   rintro A H' h1 ⟨S',F,aa,T,J,Y,af⟩;refine⟨Y,?_⟩;obtain⟨l,vs,E,h3,Z⟩:=CD (P:=P) F.rows aa fn.results.toList _ (fun r hr=>by grind) h1;have hr:(results fn X.tmps).run P w'=.ok (if h:vs.toArray.size=1 then vs.toArray[0]else .tuple vs.toArray) w':=by grind[Y5,Array.mapM_eq_mapM_toList,Sem.run_bind,Sem.run_map,Result.andThen_ok,Sem.run_pure]
   refine⟨_,hr,?_⟩;unfold Z8 at E;split at E
   ·rename_i x;simp only[bR]at Z;obtain⟨u,t,rfl,h5,rfl⟩:=Z;exact⟨_,x,H',S',rfl,E,F,by grind,T,J⟩
   ·rename_i ai;have ah:=jE _ _ Z;have ab:¬vs.toArray.size=1:=by
     intro e;have:l.length=1:=by grind
     match l,this with
     | [x],_=>grind
    rw[dif_neg ab];exact⟨_,_,H',S',rfl,E,F,by grind[rep],T,J⟩
  cases e <;> simp only[agP,bodyPost]at U |-
  case normal=>obtain⟨A,H',h1,E⟩:=U;exact O A H' h1 E
  case ret=>obtain⟨A,H',h1,E⟩:=U;exact O A H' h1 E
  case exit id=>obtain⟨A,H',h1,E⟩:=U;exact h1.elim
def RC.body{f:FuncId}{fn:Func}{c:Code}{args:List AV}{R:AV->aM->Prop}(mt:Nat->Bool)(I:P.follows .mixedOrders=true)(A:P.funcs[f]?=some fn)(J:fn.body=some c)(E:El fn c args.length=true)
 (h:awp P (bQ P) (eN P) mt c (MH P fn.results.toList R) (Ho args) bN):RC P f args R:=fun S w vals O _ F=>bQ.body mt I A J E h S w vals O F
def PC.body{f:FuncId}{fn:Func}{c:Code}{args:List AV}{r:AV}(mt:Nat->Bool)(F:P.follows .mixedOrders=true)(A:P.funcs[f]?=some fn)(I:fn.body=some c)(E:El fn c args.length=true)
 (h:awp P (bQ P) (eN P) mt c (MH P fn.results.toList fun x H'=>Conv H' x r) (Ho args) bN):PC P f args r:=RC.conv (RC.body mt F A I E h)
def NC.body{f:FuncId}{fn:Func}{c:Code}{args:List AV}{row:Row}{A:Nat->AV}(mt:Nat->Bool)(I:P.follows .mixedOrders=true)(E:P.funcs[f]?=some fn)(J:fn.body=some c)(F:El fn c args.length=true)
 (h:awp P (bQ P) (eN P) mt c (MH P fn.results.toList fun x H'=>∃k,x=A k/\H' k=some row) (Ho args) bN):NC P f args row A:=RC.body mt I E J F h
def PC.q{f:FuncId}{args:List AV}{r:AV}(h:PC P f args r)(A:(fv r).isSome=true):eN P f args H r:=.inl ⟨args,ConvL.refl args,h,A⟩
def PC.qn{f:FuncId}{args:List AV}{r:AV}(h:PC P f args r):eN P f args H (.nf r):=.inr ⟨r,rfl,h⟩
def eN.use{f:FuncId}{args:List AV}{r:AV}{K:AV->aM->Prop}(h:BX P f args H r)(A:K r H):bQ P f args H K:=BX.use h A
end
end Go.Aw
end
section
namespace Go.Proofs.YtkfhgjihlbilpaaGreatDoor.Ty
open Go.Aw Go.Proofs
theorem yB{P:Program}{t:TypeId}(h:(P.info? t).map (·.size)=some 1):∃i,P.info? t=some i/\i.size=1:=by
 cases A:P.info? t with
 | none=>simp[A]at h
 | some i=>exact⟨i,rfl,by simpa[A]using h⟩
theorem mixed:Tryz.prog.follows .mixedOrders=true:=by kernel_rfl
theorem aAs:cK Tryz.prog 98=some (97,2,16):=by kernel_rfl
theorem aBh:cK Tryz.prog 99=some (4,1,1):=by kernel_rfl
theorem azR:cK Tryz.prog 252=some (307,2,16):=by kernel_rfl
theorem Ew:Xa Tryz.prog 207=some (3,3):=by kernel_rfl
theorem zv3:NS Tryz.prog 3=some (.v (.int .i64 0)):=by kernel_rfl
theorem so3:∃i,Tryz.prog.info? 3=some i/\i.size=1:=yB (by kernel_rfl)
theorem so4:∃i,Tryz.prog.info? 4=some i/\i.size=1:=yB (by kernel_rfl)
theorem ajQ:∃i,Tryz.prog.info? 31=some i/\i.size=1:=yB (by kernel_rfl)
theorem aiR:∃i,Tryz.prog.info? 48=some i/\i.size=1:=yB (by kernel_rfl)
theorem aA2:∃i,Tryz.prog.info? 73=some i/\i.size=1:=yB (by kernel_rfl)
theorem Zp:∃i,Tryz.prog.info? 196=some i/\i.size=1:=yB (by kernel_rfl)
theorem azO:∃i,Tryz.prog.info? 286=some i/\i.size=1:=yB (by kernel_rfl)
open Go.Proofs.Tryz(prog)
theorem tyJ0:Ms prog 3=some .i64/\Ms prog 5=some .u8/\fW prog 9=true/\Lo prog 194=true/\Ms prog 221=some .u64/\D6 prog 4=true/\En prog 97=some [0,2]/\En prog 307=some [0,0]/\En prog 392=some [0,0,0]/\aR prog 25 0=some (0,none)/\aR prog 25 1=some (1,none)/\aR prog 30 0=some (0,some 2)/\aR prog 30 1=some (2,none)/\aR prog 30 2=some (3,none)/\aR prog 30 3=some (4,none)/\aR prog 30 4=some (5,none)/\aR prog 35 0=some (0,none)/\aR prog 35 1=some (1,none)/\aR prog 35 2=some (2,none)/\aR prog 35 3=some (3,none)/\aR prog 37 0=some (0,none)/\aR prog 37 1=some (1,none)/\aR prog 37 2=some (2,none)/\aR prog 37 3=some (3,none)/\aR prog 37 4=some (4,some 4)/\aR prog 37 5=some (8,none)/\aR prog 37 6=some (9,none)/\aR prog 50 0=some (0,none)/\aR prog 50 1=some (1,none)/\aR prog 53 0=some (0,none)/\aR prog 53 1=some (1,some 2)/\aR prog 53 2=some (3,none)/\aR prog 58 0=some (0,none)/\aR prog 58 1=some (1,none)/\aR prog 58 2=some (2,none)/\aR prog 58 3=some (3,none)/\aR prog 60 0=some (0,none)/\aR prog 60 1=some (1,none)/\aR prog 60 2=some (2,some 4)/\aR prog 60 3=some (6,some 4):=by and_intros<;>kernel_rfl
theorem aCn:aR prog 60 4=some (10,none)/\aR prog 60 5=some (11,none)/\aR prog 60 6=some (12,none)/\aR prog 60 7=some (13,none)/\aR prog 60 8=some (14,none)/\aR prog 60 9=some (15,none)/\aR prog 68 0=some (0,some 6)/\aR prog 68 1=some (6,none)/\aR prog 68 2=some (7,none)/\aR prog 68 3=some (8,none)/\aR prog 75 0=some (0,none)/\aR prog 75 1=some (1,none)/\aR prog 90 0=some (0,none)/\aR prog 90 1=some (1,none)/\aR prog 93 0=some (0,none)/\aR prog 93 1=some (1,none)/\aR prog 93 2=some (2,none)/\aR prog 93 3=some (3,none)/\aR prog 93 4=some (4,none)/\aR prog 93 5=some (5,none)/\aR prog 95 0=some (0,none)/\aR prog 95 1=some (1,none)/\aR prog 95 2=some (2,none)/\aR prog 95 3=some (3,none)/\aR prog 95 4=some (4,none)/\aR prog 95 5=some (5,none)/\aR prog 95 6=some (6,none)/\aR prog 95 7=some (7,none)/\aR prog 95 8=some (8,none)/\aR prog 95 9=some (9,none)/\aR prog 95 10=some (10,none)/\aR prog 95 11=some (11,none)/\aR prog 95 12=some (12,none)/\aR prog 95 13=some (13,none)/\aR prog 97 0=some (0,none)/\aR prog 97 1=some (1,none)/\aR prog 101 0=some (0,none)/\aR prog 101 1=some (1,none)/\aR prog 101 2=some (2,none)/\aR prog 101 3=some (3,none):=by and_intros<;>kernel_rfl
theorem aCi:aR prog 109 0=some (0,none)/\aR prog 109 1=some (1,none)/\aR prog 109 2=some (2,none)/\aR prog 115 0=some (0,none)/\aR prog 115 1=some (1,none)/\aR prog 115 2=some (2,none)/\aR prog 115 3=some (3,some 4)/\aR prog 125 0=some (0,none)/\aR prog 125 1=some (1,none)/\aR prog 125 2=some (2,none)/\aR prog 125 3=some (3,none)/\aR prog 141 0=some (0,none)/\aR prog 141 1=some (1,none)/\aR prog 161 0=some (0,none)/\aR prog 161 1=some (1,none)/\aR prog 161 2=some (2,none)/\aR prog 198 0=some (0,none)/\aR prog 198 1=some (1,none)/\aR prog 198 2=some (2,none)/\aR prog 198 3=some (3,none)/\aR prog 198 4=some (4,none)/\aR prog 249 0=some (0,some 6)/\aR prog 249 1=some (6,none)/\aR prog 249 2=some (7,none)/\aR prog 249 3=some (8,none)/\aR prog 249 4=some (9,some 7)/\aR prog 249 5=some (16,none)/\aR prog 263 0=some (0,none)/\aR prog 263 1=some (1,none)/\aR prog 288 0=some (0,some 6)/\aR prog 288 1=some (6,some 14)/\aR prog 288 2=some (20,some 4)/\aR prog 288 3=some (24,none)/\aR prog 292 0=some (0,none)/\aR prog 292 1=some (1,none)/\aR prog 292 2=some (2,some 5)/\aR prog 307 0=some (0,none)/\aR prog 307 1=some (1,none)/\aR prog 363 1=some (1,none)/\aR prog 363 2=some (2,none):=by and_intros<;>kernel_rfl
theorem aAc:aR prog 363 3=some (3,none)/\aR prog 407 0=some (0,none)/\aR prog 407 1=some (1,none)/\aR prog 407 2=some (2,none)/\aR prog 407 3=some (3,none)/\cK prog 22=some (9,1,16)/\cR prog 22=true/\cK prog 23=some (93,6,80)/\cR prog 23=true/\cK prog 26=some (95,14,136)/\cR prog 26=true/\cK prog 27=some (60,16,152)/\cR prog 27=true/\cK prog 28=some (148,2,16)/\cR prog 28=true/\cK prog 31=some (35,4,32)/\cR prog 31=true/\cK prog 32=some (109,3,24)/\cR prog 32=true/\cK prog 33=some (46,1,16)/\cR prog 33=true/\cK prog 44=some (141,2,24)/\cR prog 44=true/\fW prog 46=true/\cK prog 47=some (101,4,64)/\cR prog 47=true/\cK prog 48=some (3,1,8)/\cR prog 48=true/\cK prog 51=some (37,10,112)/\cR prog 51=true/\cK prog 61=some (31,1,24)/\cR prog 61=true/\cK prog 66=some (115,7,88)/\cR prog 66=true/\cK prog 73=some (161,3,40)/\cR prog 73=true/\cK prog 91=some (90,2,16)/\cR prog 91=true/\cR prog 98=true/\cR prog 99=true:=by and_intros<;>kernel_rfl
theorem aAx:HA prog 135=some (4,1,none)/\cK prog 144=some (41,1,8)/\cR prog 144=true/\HA prog 148=some (2,1,none)/\cK prog 194=some (5,1,1)/\cK prog 196=some (363,4,32)/\cR prog 196=true/\HA prog 203=some (4,1,none)/\cK prog 237=some (149,1,8)/\cR prog 237=true/\cR prog 252=true/\cK prog 259=some (263,2,24)/\cR prog 259=true/\cK prog 266=some (48,1,24)/\cR prog 266=true/\cK prog 286=some (58,4,32)/\cR prog 286=true/\cK prog 294=some (292,7,72)/\cR prog 294=true/\cK prog 308=some (3,1,8)/\cR prog 308=true/\HA prog 316=some (2,1,none)/\cK prog 344=some (316,2,32)/\cR prog 344=true/\ldT prog 3=some none/\ldT prog 4=some none/\ldT prog 9=some none/\ldT prog 22=some none/\ldT prog 23=some none/\ldT prog 25=some (some 2)/\ldT prog 26=some none/\ldT prog 27=some none/\ldT prog 28=some none/\ldT prog 30=some (some 6)/\ldT prog 31=some none/\ldT prog 32=some none/\ldT prog 33=some none/\ldT prog 35=some (some 4)/\ldT prog 37=some (some 10)/\ldT prog 41=some none:=by and_intros<;>kernel_rfl
theorem aAy:ldT prog 46=some none/\ldT prog 47=some none/\ldT prog 48=some none/\ldT prog 50=some (some 2)/\ldT prog 51=some none/\ldT prog 53=some (some 4)/\ldT prog 58=some (some 4)/\ldT prog 60=some (some 16)/\ldT prog 66=some none/\ldT prog 73=some none/\ldT prog 75=some (some 2)/\ldT prog 90=some (some 2)/\ldT prog 91=some none/\ldT prog 93=some (some 6)/\ldT prog 95=some (some 14)/\ldT prog 97=some (some 2)/\ldT prog 98=some none/\ldT prog 99=some none/\ldT prog 101=some (some 4)/\ldT prog 109=some (some 3)/\ldT prog 115=some (some 7)/\ldT prog 125=some (some 4)/\ldT prog 135=some (some 4)/\ldT prog 148=some (some 2)/\ldT prog 149=some none/\ldT prog 161=some (some 3)/\ldT prog 196=some none/\ldT prog 198=some (some 5)/\ldT prog 203=some (some 4)/\ldT prog 242=some none/\ldT prog 263=some (some 2)/\ldT prog 286=some none/\ldT prog 288=some (some 25)/\ldT prog 292=some (some 7)/\ldT prog 307=some (some 2)/\ldT prog 316=some (some 2)/\ldT prog 363=some (some 4)/\ldT prog 392=some (some 3)/\ldT prog 407=some (some 4)/\yR prog 3=some 0:=by and_intros<;>kernel_rfl
theorem aBC:eH prog 25=some [(0,1),(1,1)]/\eH prog 30=some [(0,2),(2,1),(3,1),(4,1),(5,1)]/\eH prog 35=some [(0,1),(1,1),(2,1),(3,1)]/\eH prog 37=some [(0,1),(1,1),(2,1),(3,1),(4,4),(8,1),(9,1)]/\eH prog 50=some [(0,1),(1,1)]/\eH prog 53=some [(0,1),(1,2),(3,1)]/\eH prog 58=some [(0,1),(1,1),(2,1),(3,1)]/\eH prog 60=some [(0,1),(1,1),(2,4),(6,4),(10,1),(11,1),(12,1),(13,1),(14,1),(15,1)]/\eH prog 68=some [(0,6),(6,1),(7,1),(8,1)]/\eH prog 75=some [(0,1),(1,1)]/\eH prog 90=some [(0,1),(1,1)]/\eH prog 93=some [(0,1),(1,1),(2,1),(3,1),(4,1),(5,1)]/\eH prog 95=some [(0,1),(1,1),(2,1),(3,1),(4,1),(5,1),(6,1),(7,1),(8,1),(9,1),(10,1),(11,1),(12,1),(13,1)]/\eH prog 97=some [(0,1),(1,1)]/\eH prog 101=some [(0,1),(1,1),(2,1),(3,1)]/\eH prog 115=some [(0,1),(1,1),(2,1),(3,4)]/\eH prog 125=some [(0,1),(1,1),(2,1),(3,1)]/\eH prog 135=some [(0,1),(1,1),(2,1),(3,1)]/\eH prog 141=some [(0,1),(1,1)]/\eH prog 148=some [(0,1),(1,1)]/\eH prog 161=some [(0,1),(1,1),(2,1)]/\eH prog 198=some [(0,1),(1,1),(2,1),(3,1),(4,1)]/\eH prog 203=some [(0,1),(1,1),(2,1),(3,1)]/\eH prog 249=some [(0,6),(6,1),(7,1),(8,1),(9,7),(16,1)]/\eH prog 263=some [(0,1),(1,1)]/\eH prog 288=some [(0,6),(6,14),(20,4),(24,1)]/\eH prog 292=some [(0,1),(1,1),(2,5)]/\eH prog 307=some [(0,1),(1,1)]/\eH prog 316=some [(0,1),(1,1)]/\eH prog 363=some [(0,1),(1,1),(2,1),(3,1)]/\eH prog 392=some [(0,1),(1,1),(2,1)]/\eH prog 407=some [(0,1),(1,1),(2,1),(3,1)]/\dX prog 3=some [.v (.int .i64 0)]/\dX prog 4=some [.v (.bool false)]/\dX prog 9=some [.v (.string ByteArray.empty)]/\dX prog 25=some [.sl [],.sl []]/\dX prog 30=some [.sl [],.sl [],.sl [],.sl [],.sl [],.sl []]/\dX prog 31=some [.sl []]/\dX prog 35=some [.v (.int .i64 0),.v (.int .i64 0),.v (.int .i64 0),.v (.int .i64 0)]/\dX prog 37=some [.v (.bool false),.v (.int .i64 0),.sl [],.sl [],.v (.int .i64 0),.v (.int .i64 0),.v (.int .i64 0),.v (.int .i64 0),.v (.int .i64 0),.v (.int .i64 0)]:=by and_intros<;>kernel_rfl
theorem aAR:dX prog 48=some [.sl []]/\dX prog 50=some [.sl [],.sl []]/\dX prog 53=some [.v (.bool false),.sl [],.sl [],.sl []]/\dX prog 58=some [.v (.int .i64 0),.v (.int .i64 0),.v (.int .i64 0),.v (.int .i64 0)]/\dX prog 60=some [.v (.string ByteArray.empty),.sl [],.v (.int .i64 0),.v (.int .i64 0),.v (.int .i64 0),.v (.int .i64 0),.v (.int .i64 0),.v (.int .i64 0),.v (.int .i64 0),.v (.int .i64 0),.v (.int .i64 0),.v (.int .i64 0),.v (.int .i64 0),.v (.int .i64 0),.v (.int .i64 0),.v (.bool false)]/\dX prog 68=some [.sl [],.sl [],.sl [],.sl [],.sl [],.sl [],.sl [],.v (.int .i64 0),.v (.bool false)]/\uG prog 75=some [(0,3,1),(1,161,3)]/\dX prog 75=some [.sl [],.sl []]/\dX prog 90=some [.v (.int .i64 0),.v (.int .i64 0)]/\dX prog 93=some [.v (.int .i64 0),.v (.int .i64 0),.v (.int .i64 0),.v (.int .i64 0),.sl [],.sl []]/\dX prog 95=some [.v (.string ByteArray.empty),.v (.int .i64 0),.v (.int .i64 0),.v (.int .i64 0),.sl [],.v (.int .i64 0),.v (.int .i64 0),.v (.int .i64 0),.v (.int .i64 0),.v (.int .i64 0),.v (.int .i64 0),.v (.int .i64 0),.v (.int .i64 0),.v (.int .i64 0)]/\dX prog 97=some [.v (.int .i64 0),.v (.bool false)]/\dX prog 101=some [.v (.int .i64 0),.v (.int .i64 0),.sl [],.sl []]/\dX prog 109=some [.v (.int .i64 0),.v (.int .i64 0),.v (.int .i64 0)]/\dX prog 115=some [.v (.int .i64 0),.v (.int .i64 0),.v (.int .i64 0),.v (.int .i64 0),.v (.int .i64 0),.sl [],.sl []]/\dX prog 125=some [.v (.int .i64 0),.v (.int .i64 0),.v (.int .i64 0),.v (.int .i64 0)]/\dX prog 135=some [.v (.string ByteArray.empty),.v (.string ByteArray.empty),.v (.string ByteArray.empty),.v (.string ByteArray.empty)]/\dX prog 141=some [.v (.int .i64 0),.v (.string ByteArray.empty)]/\dX prog 148=some [.v (.int .i64 0),.v (.int .i64 0)]/\uG prog 161=some [(0,3,1)]/\dX prog 161=some [.sl [],.v (.int .i64 0),.v (.int .i64 0)]/\uG prog 198=some [(2,363,4)]/\dX prog 198=some [.v (.bool false),.v (.int .i64 0),.sl [],.v (.int .i64 0),.v (.int .i64 0)]/\dX prog 203=some [.v (.int .i64 0),.v (.int .i64 0),.v (.int .i64 0),.v (.int .i64 0)]/\dX prog 249=some [.sl [],.sl [],.sl [],.sl [],.sl [],.sl [],.v (.int .i64 0),.v (.int .i64 0),.v (.int .i64 0),.v (.int .i64 0),.v (.int .i64 0),.v (.int .i64 0),.v (.int .i64 0),.v (.int .i64 0),.sl [],.sl [],.v (.bool false)]/\dX prog 263=some [.v (.bool false),.v (.string ByteArray.empty)]/\uG prog 288=some [(0,9,1),(1,93,6),(2,95,14),(3,60,16),(4,148,2),(5,148,2),(10,3,1),(22,4,1),(23,97,2),(24,58,4)]/\dX prog 288=some [.sl [],.sl [],.sl [],.sl [],.sl [],.sl [],.v (.string ByteArray.empty),.v (.int .i64 0),.v (.int .i64 0),.v (.int .i64 0),.sl [],.v (.int .i64 0),.v (.int .i64 0),.v (.int .i64 0),.v (.int .i64 0),.v (.int .i64 0),.v (.int .i64 0),.v (.int .i64 0),.v (.int .i64 0),.v (.int .i64 0),.v (.int .i64 0),.v (.int .i64 0),.sl [],.sl [],.sl []]/\dX prog 292=some [.v (.int .i64 0),.v (.int .i64 0),.v (.bool false),.v (.int .i64 0),.sl [],.v (.int .i64 0),.v (.int .i64 0)]/\dX prog 307=some [.v (.int .i64 0),.v (.int .i64 0)]/\dX prog 316=some [.v (.string ByteArray.empty),.v (.string ByteArray.empty)]/\dX prog 363=some [.v (.int .i64 0),.v (.int .i64 0),.v (.int .i64 0),.v (.bool false)]/\dX prog 392=some [.v (.int .i64 0),.v (.int .i64 0),.v (.int .i64 0)]/\dX prog 407=some [.v (.int .i64 0),.v (.int .i64 0),.v (.int .i64 0),.v (.int .i64 0)]/\aE prog 4=true/\aE prog 5=true/\aE prog 6=true/\aE prog 7=true/\aE prog 8=true/\aE prog 9=true:=by and_intros<;>kernel_rfl
theorem aBr:aE prog 10=true/\aE prog 11=true/\aE prog 12=true/\aE prog 13=true/\aE prog 14=true/\aE prog 15=true/\aE prog 16=true/\aE prog 17=true/\aE prog 18=true/\aE prog 19=true/\aE prog 20=true/\aE prog 21=true/\aE prog 22=true/\aE prog 23=true/\aE prog 24=true/\aE prog 25=true/\aE prog 26=true/\aE prog 27=true/\aE prog 28=true/\aE prog 29=true/\aE prog 30=true/\aE prog 31=true/\aE prog 32=true/\aE prog 33=true/\aE prog 34=true/\aE prog 35=true/\aE prog 36=true/\aE prog 37=true/\aE prog 38=true/\aE prog 39=true/\aE prog 40=true/\aE prog 41=true/\aE prog 42=true/\aE prog 43=true/\aE prog 44=true/\aE prog 45=true/\aE prog 46=true/\aE prog 47=true/\aE prog 48=true/\aE prog 49=true:=by and_intros<;>kernel_rfl
theorem aAr:aE prog 50=true/\aE prog 51=true/\aE prog 52=true/\aE prog 53=true/\aE prog 54=true/\aE prog 55=true/\aE prog 56=true/\aE prog 57=true/\aE prog 58=true/\aE prog 59=true/\aE prog 60=true/\aE prog 61=true/\aE prog 62=true/\aE prog 63=true/\aE prog 64=true/\aE prog 65=true/\aE prog 66=true/\aE prog 67=true/\aE prog 68=true/\aE prog 69=true/\aE prog 70=true/\aE prog 72=true/\aE prog 75=true/\aE prog 76=true/\aE prog 77=true/\aE prog 78=true/\aE prog 79=true/\aE prog 80=true/\aE prog 81=true/\aE prog 82=true/\aE prog 83=true/\aE prog 84=true/\aE prog 85=true/\aE prog 86=true/\aE prog 87=true/\aE prog 88=true/\aE prog 89=true/\aE prog 90=true/\aE prog 91=true/\aE prog 92=true:=by and_intros<;>kernel_rfl
theorem aAX:aE prog 93=true/\aE prog 95=true/\aE prog 96=true/\aE prog 98=true/\aE prog 99=true/\aE prog 100=true/\aE prog 101=true/\aE prog 102=true/\aE prog 103=true/\aE prog 104=true/\aE prog 105=true/\aE prog 106=true/\aE prog 107=true/\aE prog 108=true/\aE prog 109=true/\aE prog 110=true/\aE prog 111=true/\aE prog 112=true/\aE prog 113=true/\aE prog 114=true/\aE prog 115=true/\aE prog 116=true/\aE prog 117=true/\aE prog 118=true/\aE prog 119=true/\aE prog 120=true/\aE prog 121=true/\aE prog 122=true/\aE prog 123=true/\aE prog 124=true/\aE prog 125=true/\aE prog 126=true/\aE prog 127=true/\aE prog 128=true/\aE prog 129=true/\aE prog 130=true/\aE prog 131=true/\aE prog 132=true/\aE prog 133=true/\aE prog 134=true:=by and_intros<;>kernel_rfl
theorem aA8:aE prog 135=true/\aE prog 136=true/\aE prog 137=true/\aE prog 138=true/\aE prog 139=true/\aE prog 140=true/\aE prog 141=true/\aE prog 142=true/\aE prog 143=true/\aE prog 144=true/\aE prog 145=true/\aE prog 146=true/\aE prog 147=true/\aE prog 148=true/\aE prog 150=true/\aE prog 151=true/\aE prog 152=true/\aE prog 153=true/\aE prog 154=true/\aE prog 155=true/\aE prog 156=true/\aE prog 157=true/\aE prog 158=true/\aE prog 159=true/\aE prog 160=true/\aE prog 161=true/\aE prog 162=true/\aE prog 163=true/\aE prog 164=true/\aE prog 165=true/\aE prog 166=true/\aE prog 167=true/\aE prog 168=true/\aE prog 169=true/\aE prog 170=true/\aE prog 171=true/\aE prog 172=true/\aE prog 173=true/\aE prog 174=true/\aE prog 175=true:=by and_intros<;>kernel_rfl
theorem aBv:aE prog 176=true/\aE prog 177=true/\aE prog 178=true/\aE prog 179=true/\aE prog 180=true/\aE prog 181=true/\aE prog 182=true/\aE prog 183=true/\aE prog 184=true/\aE prog 185=true/\aE prog 186=true/\aE prog 187=true/\aE prog 188=true/\aE prog 189=true/\aE prog 190=true/\aE prog 191=true/\aE prog 192=true/\aE prog 193=true/\aE prog 194=true/\aE prog 195=true/\aE prog 196=true/\aE prog 198=true/\aE prog 199=true/\aE prog 203=true/\aE prog 204=true/\aE prog 205=true/\aE prog 206=true/\aE prog 207=true/\aE prog 208=true/\aE prog 209=true/\aE prog 210=true/\aE prog 211=true/\aE prog 212=true/\aE prog 213=true/\aE prog 214=true/\aE prog 215=true/\aE prog 216=true/\aE prog 217=true/\aE prog 218=true/\aE prog 219=true:=by and_intros<;>kernel_rfl
theorem aBF:aE prog 220=true/\aE prog 221=true/\aE prog 222=true/\aE prog 223=true/\aE prog 224=true/\aE prog 225=true/\aE prog 226=true/\aE prog 227=true/\aE prog 228=true/\aE prog 229=true/\aE prog 230=true/\aE prog 231=true/\aE prog 232=true/\aE prog 233=true/\aE prog 234=true/\aE prog 235=true/\aE prog 236=true/\aE prog 237=true/\aE prog 238=true/\aE prog 239=true/\aE prog 240=true/\aE prog 241=true/\aE prog 243=true/\aE prog 244=true/\aE prog 245=true/\aE prog 246=true/\aE prog 247=true/\aE prog 248=true/\aE prog 249=true/\aE prog 250=true/\aE prog 251=true/\aE prog 252=true/\aE prog 253=true/\aE prog 254=true/\aE prog 255=true/\aE prog 256=true/\aE prog 257=true/\aE prog 258=true/\aE prog 259=true/\aE prog 260=true:=by and_intros<;>kernel_rfl
theorem aAF:aE prog 261=true/\aE prog 262=true/\aE prog 263=true/\aE prog 264=true/\aE prog 265=true/\aE prog 266=true/\aE prog 268=true/\aE prog 269=true/\aE prog 270=true/\aE prog 271=true/\aE prog 272=true/\aE prog 274=true/\aE prog 275=true/\aE prog 276=true/\aE prog 278=true/\aE prog 279=true/\aE prog 280=true/\aE prog 281=true/\aE prog 282=true/\aE prog 283=true/\aE prog 284=true/\aE prog 285=true/\aE prog 286=true/\aE prog 287=true/\aE prog 288=true/\aE prog 289=true/\aE prog 290=true/\aE prog 291=true/\aE prog 292=true/\aE prog 293=true/\aE prog 294=true/\aE prog 295=true/\aE prog 296=true/\aE prog 297=true/\aE prog 298=true/\aE prog 299=true/\aE prog 300=true/\aE prog 301=true/\aE prog 302=true/\aE prog 303=true:=by and_intros<;>kernel_rfl
theorem aBQ:aE prog 304=true/\aE prog 306=true/\aE prog 307=true/\aE prog 308=true/\aE prog 309=true/\aE prog 310=true/\aE prog 311=true/\aE prog 312=true/\aE prog 313=true/\aE prog 314=true/\aE prog 315=true/\aE prog 316=true/\aE prog 317=true/\aE prog 318=true/\aE prog 319=true/\aE prog 320=true/\aE prog 321=true/\aE prog 322=true/\aE prog 323=true/\aE prog 324=true/\aE prog 325=true/\aE prog 327=true/\aE prog 332=true/\aE prog 334=true/\aE prog 335=true/\aE prog 336=true/\aE prog 337=true/\aE prog 338=true/\aE prog 339=true/\aE prog 340=true/\aE prog 341=true/\aE prog 342=true/\aE prog 343=true/\aE prog 344=true/\aE prog 345=true/\aE prog 346=true/\aE prog 347=true/\aE prog 348=true/\aE prog 349=true/\aE prog 350=true:=by and_intros<;>kernel_rfl
theorem aAm:aE prog 351=true/\aE prog 352=true/\aE prog 353=true/\aE prog 354=true/\aE prog 355=true/\aE prog 356=true/\aE prog 357=true/\aE prog 358=true/\aE prog 363=true/\aE prog 369=true/\aE prog 371=true/\aE prog 375=true/\aE prog 376=true/\aE prog 377=true/\aE prog 378=true/\aE prog 379=true/\aE prog 380=true/\aE prog 381=true/\aE prog 393=true/\aE prog 394=true/\aE prog 395=true/\aE prog 396=true/\aE prog 397=true/\aE prog 398=true/\aE prog 402=true/\aE prog 403=true/\aE prog 404=true/\aE prog 406=true/\aE prog 407=true/\aE prog 408=true/\aE prog 409=true/\aE prog 410=true:=by and_intros<;>kernel_rfl
attribute [go_sem] aAs aBh azR Ew zv3 so3 so4 ajQ aiR aA2 Zp azO tyJ0 aCn aCi aAc aAx aAy aBC aAR aBr aAr aAX aA8 aBv aBF aAF aBQ aAm
end Go.Proofs.YtkfhgjihlbilpaaGreatDoor.Ty
end
section
namespace Go.Aw.D
open Go.Aw
def aP(n:Int):List AV:=[.v (.int .i64 n)]
def dY(b:Bool):List AV:=[.v (.bool b)]
def dK(s:ByteArray):List AV:=[.v (.string s)]
def KX(x:Int):(aP x).length=1:=rfl
def arJ(x:Int):(aP x).getD 0 .any=.v (.int .i64 x):=rfl
def Ue(x:Bool):(dY x).length=1:=rfl
def agH(x:Bool):(dY x).getD 0 .any=.v (.bool x):=rfl
def X8(x:ByteArray):(dK x).length=1:=rfl
def apB(x:ByteArray):(dK x).getD 0 .any=.v (.string x):=rfl
structure Point where
 t:Int
 a:Int
 deriving DecidableEq
def cG(x:Point):List AV:=[.v (.int .i64 x.t),.v (.int .i64 x.a)]
def gH(x:Point):(cG x).length=2:=rfl
def Xj(x:Point):(cG x).getD 0 .any=.v (.int .i64 x.t):=rfl
def Xb(x:Point):(cG x).getD 1 .any=.v (.int .i64 x.a):=rfl
def Gh(x:Point):(cG x).take 2=cG x:=rfl
structure Arc where
 src:Int
 dst:Int
 o6:Int
 o7:Int
 eP:List Point
 ξ:List Point
 deriving DecidableEq
def fL(x:Arc):List AV:=[.v (.int .i64 x.src),.v (.int .i64 x.dst),.v (.int .i64 x.o6),.v (.int .i64 x.o7),.sl (x.eP.map cG),.sl (x.ξ.map cG)]
def jR(x:Arc):(fL x).length=6:=rfl
def ajX(x:Arc):(fL x).getD 0 .any=.v (.int .i64 x.src):=rfl
def arI(x:Arc):(fL x).getD 1 .any=.v (.int .i64 x.dst):=rfl
def amU(x:Arc):(fL x).getD 2 .any=.v (.int .i64 x.o6):=rfl
def aqX(x:Arc):(fL x).getD 3 .any=.v (.int .i64 x.o7):=rfl
def arQ(x:Arc):(fL x).getD 4 .any=.sl (x.eP.map cG):=rfl
def anW(x:Arc):(fL x).getD 5 .any=.sl (x.ξ.map cG):=rfl
def Xv(x:Arc):(fL x).take 6=fL x:=rfl
structure Network where
 places:List ByteArray
 o9:List Arc
 deriving DecidableEq
def bH(x:Network):List AV:=[.sl (x.places.map dK),.sl (x.o9.map fL)]
def Ma(x:Network):(bH x).length=2:=rfl
def Qj(x:Network):(bH x).getD 0 .any=.sl (x.places.map dK):=rfl
def Qz(x:Network):(bH x).getD 1 .any=.sl (x.o9.map fL):=rfl
def KK(x:Network):(bH x).take 2=bH x:=rfl
structure VType where
 name:ByteArray
 count:Int
 src:Int
 dst:Int
 cap:List Int
 l7:Int
 o6:Int
 start:Int
 close:Int
 υ:Int
 rest:Int
 fixed:Int
 perMile:Int
 perTick:Int
 deriving DecidableEq
def bI(x:VType):List AV:=[.v (.string x.name),.v (.int .i64 x.count),.v (.int .i64 x.src),.v (.int .i64 x.dst),.sl (x.cap.map aP),.v (.int .i64 x.l7),.v (.int .i64 x.o6),.v (.int .i64 x.start),.v (.int .i64 x.close),.v (.int .i64 x.υ),.v (.int .i64 x.rest),.v (.int .i64 x.fixed),.v (.int .i64 x.perMile),.v (.int .i64 x.perTick)]
def kD(x:VType):(bI x).length=14:=rfl
def Xx(x:VType):(bI x).getD 0 .any=.v (.string x.name):=rfl
def V1(x:VType):(bI x).getD 1 .any=.v (.int .i64 x.count):=rfl
def V5(x:VType):(bI x).getD 2 .any=.v (.int .i64 x.src):=rfl
def Wh(x:VType):(bI x).getD 3 .any=.v (.int .i64 x.dst):=rfl
def Wd(x:VType):(bI x).getD 4 .any=.sl (x.cap.map aP):=rfl
def Wn(x:VType):(bI x).getD 5 .any=.v (.int .i64 x.l7):=rfl
def W6(x:VType):(bI x).getD 6 .any=.v (.int .i64 x.o6):=rfl
def Wi(x:VType):(bI x).getD 7 .any=.v (.int .i64 x.start):=rfl
def Ww(x:VType):(bI x).getD 8 .any=.v (.int .i64 x.close):=rfl
def Wv(x:VType):(bI x).getD 9 .any=.v (.int .i64 x.υ):=rfl
def UI(x:VType):(bI x).getD 10 .any=.v (.int .i64 x.rest):=rfl
def T2(x:VType):(bI x).getD 11 .any=.v (.int .i64 x.fixed):=rfl
def TT(x:VType):(bI x).getD 12 .any=.v (.int .i64 x.perMile):=rfl
def SQ(x:VType):(bI x).getD 13 .any=.v (.int .i64 x.perTick):=rfl
def Qc(x:VType):(bI x).take 14=bI x:=rfl
structure Stop where
 place:Int
 start:Int
 close:Int
 ζ:Int
 deriving DecidableEq
def eT(x:Stop):List AV:=[.v (.int .i64 x.place),.v (.int .i64 x.start),.v (.int .i64 x.close),.v (.int .i64 x.ζ)]
def iP(x:Stop):(eT x).length=4:=rfl
def aeM(x:Stop):(eT x).getD 0 .any=.v (.int .i64 x.place):=rfl
def ahZ(x:Stop):(eT x).getD 1 .any=.v (.int .i64 x.start):=rfl
def aeA(x:Stop):(eT x).getD 2 .any=.v (.int .i64 x.close):=rfl
def agZ(x:Stop):(eT x).getD 3 .any=.v (.int .i64 x.ζ):=rfl
def Vg(x:Stop):(eT x).take 4=eT x:=rfl
structure Order where
 name:ByteArray
 load:List Int
 pick:Stop
 drop:Stop
 l7:Int
 η:Int
 split:Int
 last:Int
 now:Int
 off:Bool
 deriving DecidableEq
def bE(x:Order):List AV:=[.v (.string x.name),.sl (x.load.map aP),.v (.int .i64 x.pick.place),.v (.int .i64 x.pick.start),.v (.int .i64 x.pick.close),.v (.int .i64 x.pick.ζ),.v (.int .i64 x.drop.place),.v (.int .i64 x.drop.start),.v (.int .i64 x.drop.close),.v (.int .i64 x.drop.ζ),.v (.int .i64 x.l7),.v (.int .i64 x.η),.v (.int .i64 x.split),.v (.int .i64 x.last),.v (.int .i64 x.now),.v (.bool x.off)]
def nI(x:Order):(bE x).length=16:=rfl
def Yk(x:Order):(bE x).getD 0 .any=.v (.string x.name):=rfl
def XO(x:Order):(bE x).getD 1 .any=.sl (x.load.map aP):=rfl
def Wc(x:Order):(bE x).getD 2 .any=.v (.int .i64 x.pick.place):=rfl
def XN(x:Order):(bE x).getD 3 .any=.v (.int .i64 x.pick.start):=rfl
def WI(x:Order):(bE x).getD 4 .any=.v (.int .i64 x.pick.close):=rfl
def X3(x:Order):(bE x).getD 5 .any=.v (.int .i64 x.pick.ζ):=rfl
def WG(x:Order):(bE x).getD 6 .any=.v (.int .i64 x.drop.place):=rfl
def Yr(x:Order):(bE x).getD 7 .any=.v (.int .i64 x.drop.start):=rfl
def Xr(x:Order):(bE x).getD 8 .any=.v (.int .i64 x.drop.close):=rfl
def YV(x:Order):(bE x).getD 9 .any=.v (.int .i64 x.drop.ζ):=rfl
def RZ(x:Order):(bE x).getD 10 .any=.v (.int .i64 x.l7):=rfl
def SD(x:Order):(bE x).getD 11 .any=.v (.int .i64 x.η):=rfl
def Vr(x:Order):(bE x).getD 12 .any=.v (.int .i64 x.split):=rfl
def Vv(x:Order):(bE x).getD 13 .any=.v (.int .i64 x.last):=rfl
def Tu(x:Order):(bE x).getD 14 .any=.v (.int .i64 x.now):=rfl
def Tn(x:Order):(bE x).getD 15 .any=.v (.bool x.off):=rfl
def PY(x:Order):(bE x).take 16=bE x:=rfl
def MT(x:Order):((bE x).drop 2).take 4=eT x.pick:=rfl
def MG(x:Order):((bE x).drop 6).take 4=eT x.drop:=rfl
structure Pair where
 a:Int
 b:Int
 deriving DecidableEq
def dN(x:Pair):List AV:=[.v (.int .i64 x.a),.v (.int .i64 x.b)]
def oN(x:Pair):(dN x).length=2:=rfl
def ahI(x:Pair):(dN x).getD 0 .any=.v (.int .i64 x.a):=rfl
def aeY(x:Pair):(dN x).getD 1 .any=.v (.int .i64 x.b):=rfl
def UJ(x:Pair):(dN x).take 2=dN x:=rfl
structure Instance where
 τ:Network
 types:List VType
 y5:List Order
 apart:List Pair
 before:List Pair
 deriving DecidableEq
def aD(x:Instance):List AV:=[.sl (x.τ.places.map dK),.sl (x.τ.o9.map fL),.sl (x.types.map bI),.sl (x.y5.map bE),.sl (x.apart.map dN),.sl (x.before.map dN)]
def Jg(x:Instance):(aD x).length=6:=rfl
def Mt(x:Instance):(aD x).getD 0 .any=.sl (x.τ.places.map dK):=rfl
def M9(x:Instance):(aD x).getD 1 .any=.sl (x.τ.o9.map fL):=rfl
def MI(x:Instance):(aD x).getD 2 .any=.sl (x.types.map bI):=rfl
def MK(x:Instance):(aD x).getD 3 .any=.sl (x.y5.map bE):=rfl
def Mw(x:Instance):(aD x).getD 4 .any=.sl (x.apart.map dN):=rfl
def ME(x:Instance):(aD x).getD 5 .any=.sl (x.before.map dN):=rfl
def Jk(x:Instance):(aD x).take 6=aD x:=rfl
def Jn(x:Instance):(aD x).take 2=bH x.τ:=rfl
structure Visit where
 order:Int
 drop:Bool
 deriving DecidableEq
def aN(x:Visit):List AV:=[.v (.int .i64 x.order),.v (.bool x.drop)]
def dG(x:Visit):(aN x).length=2:=rfl
def VS(x:Visit):(aN x).getD 0 .any=.v (.int .i64 x.order):=rfl
def YE(x:Visit):(aN x).getD 1 .any=.v (.bool x.drop):=rfl
def PD(x:Visit):(aN x).take 2=aN x:=rfl
structure Route where
 type:Int
 start:Int
 o5:List Bool
 y7:List Visit
 deriving DecidableEq
def bJ(x:Route):List AV:=[.v (.int .i64 x.type),.v (.int .i64 x.start),.sl (x.o5.map dY),.sl (x.y7.map aN)]
def nD(x:Route):(bJ x).length=4:=rfl
def Xl(x:Route):(bJ x).getD 0 .any=.v (.int .i64 x.type):=rfl
def WV(x:Route):(bJ x).getD 1 .any=.v (.int .i64 x.start):=rfl
def YX(x:Route):(bJ x).getD 2 .any=.sl (x.o5.map dY):=rfl
def Xz(x:Route):(bJ x).getD 3 .any=.sl (x.y7.map aN):=rfl
def PX(x:Route):(bJ x).take 4=bJ x:=rfl
structure Plan where
 x9:List Route
 y9:List Int
 deriving DecidableEq
def mA(x:Plan):List AV:=[.sl (x.x9.map bJ),.sl (x.y9.map aP)]
def TR(x:Plan):(mA x).length=2:=rfl
def aiJ(x:Plan):(mA x).getD 0 .any=.sl (x.x9.map bJ):=rfl
def aiQ(x:Plan):(mA x).getD 1 .any=.sl (x.y9.map aP):=rfl
def RT(x:Plan):(mA x).take 2=mA x:=rfl
structure Fault where
 err:Int
 at_:ByteArray
 deriving DecidableEq
def iV(x:Fault):List AV:=[.v (.int .i64 x.err),.v (.string x.at_)]
def Qh(x:Fault):(iV x).length=2:=rfl
def Y0(x:Fault):(iV x).getD 0 .any=.v (.int .i64 x.err):=rfl
def YW(x:Fault):(iV x).getD 1 .any=.v (.string x.at_):=rfl
def QC(x:Fault):(iV x).take 2=iV x:=rfl
structure Decision where
 kind:Int
 a:Int
 b:Int
 n:Int
 deriving DecidableEq
def aO(x:Decision):List AV:=[.v (.int .i64 x.kind),.v (.int .i64 x.a),.v (.int .i64 x.b),.v (.int .i64 x.n)]
def lG(x:Decision):(aO x).length=4:=rfl
def My(x:Decision):(aO x).getD 0 .any=.v (.int .i64 x.kind):=rfl
def MW(x:Decision):(aO x).getD 1 .any=.v (.int .i64 x.a):=rfl
def MM(x:Decision):(aO x).getD 2 .any=.v (.int .i64 x.b):=rfl
def MA(x:Decision):(aO x).getD 3 .any=.v (.int .i64 x.n):=rfl
def Jw(x:Decision):(aO x).take 4=aO x:=rfl
structure Column where
 type:Int
 set:Int
 o8:Int
 χ:Route
 deriving DecidableEq
def bC(x:Column):List AV:=[.v (.int .i64 x.type),.v (.int .i64 x.set),.v (.int .i64 x.o8),.v (.int .i64 x.χ.type),.v (.int .i64 x.χ.start),.sl (x.χ.o5.map dY),.sl (x.χ.y7.map aN)]
def dB(x:Column):(bC x).length=7:=rfl
def UZ(x:Column):(bC x).getD 0 .any=.v (.int .i64 x.type):=rfl
def Uh(x:Column):(bC x).getD 1 .any=.v (.int .i64 x.set):=rfl
def Tb(x:Column):(bC x).getD 2 .any=.v (.int .i64 x.o8):=rfl
def Sy(x:Column):(bC x).getD 3 .any=.v (.int .i64 x.χ.type):=rfl
def UC(x:Column):(bC x).getD 4 .any=.v (.int .i64 x.χ.start):=rfl
def T6(x:Column):(bC x).getD 5 .any=.sl (x.χ.o5.map dY):=rfl
def Vo(x:Column):(bC x).getD 6 .any=.sl (x.χ.y7.map aN):=rfl
def MP(x:Column):(bC x).take 7=bC x:=rfl
def Jj(x:Column):((bC x).drop 3).take 4=bJ x.χ:=rfl
structure Score where
 cost:Int
 moved:Int
 other:Int
 work:Int
 deriving DecidableEq
def bD(x:Score):List AV:=[.v (.int .i64 x.cost),.v (.int .i64 x.moved),.v (.int .i64 x.other),.v (.int .i64 x.work)]
def cP(x:Score):(bD x).length=4:=rfl
def Bd(x:Score):(bD x).getD 0 .any=.v (.int .i64 x.cost):=rfl
def A7(x:Score):(bD x).getD 1 .any=.v (.int .i64 x.moved):=rfl
def BQ(x:Score):(bD x).getD 2 .any=.v (.int .i64 x.other):=rfl
def Ba(x:Score):(bD x).getD 3 .any=.v (.int .i64 x.work):=rfl
def vM(x:Score):(bD x).take 4=bD x:=rfl
structure Cut where
 kind:Int
 set:Int
 n:Int
 deriving DecidableEq
def dD(x:Cut):List AV:=[.v (.int .i64 x.kind),.v (.int .i64 x.set),.v (.int .i64 x.n)]
def xZ(x:Cut):(dD x).length=3:=rfl
def apQ(x:Cut):(dD x).getD 0 .any=.v (.int .i64 x.kind):=rfl
def aoN(x:Cut):(dD x).getD 1 .any=.v (.int .i64 x.set):=rfl
def atE(x:Cut):(dD x).getD 2 .any=.v (.int .i64 x.n):=rfl
def XX(x:Cut):(dD x).take 3=dD x:=rfl
structure TimeT where
 arrive:Int
 start:Int
 ω:Int
 rest:Bool
 deriving DecidableEq
def TU(x:TimeT):List AV:=[.v (.int .i64 x.arrive),.v (.int .i64 x.start),.v (.int .i64 x.ω),.v (.bool x.rest)]
structure PRow where
 θ:List Int
 kind:Int
 right:Int
 deriving DecidableEq
def gP(x:PRow):List AV:=[.sl (x.θ.map aP),.v (.int .i64 x.kind),.v (.int .i64 x.right)]
def rH(x:PRow):(gP x).length=3:=rfl
def ahU(x:PRow):(gP x).getD 0 .any=.sl (x.θ.map aP):=rfl
def ahR(x:PRow):(gP x).getD 1 .any=.v (.int .i64 x.kind):=rfl
def agG(x:PRow):(gP x).getD 2 .any=.v (.int .i64 x.right):=rfl
def U8(x:PRow):(gP x).take 3=gP x:=rfl
structure PLin where
 cost:List Int
 rows:List PRow
 deriving DecidableEq
def fJ(x:PLin):List AV:=[.sl (x.cost.map aP),.sl (x.rows.map gP)]
def yV(x:PLin):(fJ x).length=2:=rfl
def agV(x:PLin):(fJ x).getD 0 .any=.sl (x.cost.map aP):=rfl
def agL(x:PLin):(fJ x).getD 1 .any=.sl (x.rows.map gP):=rfl
def SZ(x:PLin):(fJ x).take 2=fJ x:=rfl
structure TNode where
 leaf:Bool
 kind:Int
 y8:List Cut
 ψ:List ByteArray
 π:Decision
 yes:Int
 no:Int
 deriving DecidableEq
def bY(x:TNode):List AV:=[.v (.bool x.leaf),.v (.int .i64 x.kind),.sl (x.y8.map dD),.sl (x.ψ.map dK),.v (.int .i64 x.π.kind),.v (.int .i64 x.π.a),.v (.int .i64 x.π.b),.v (.int .i64 x.π.n),.v (.int .i64 x.yes),.v (.int .i64 x.no)]
def lO(x:TNode):(bY x).length=10:=rfl
def YT(x:TNode):(bY x).getD 0 .any=.v (.bool x.leaf):=rfl
def X7(x:TNode):(bY x).getD 1 .any=.v (.int .i64 x.kind):=rfl
def XG(x:TNode):(bY x).getD 2 .any=.sl (x.y8.map dD):=rfl
def WW(x:TNode):(bY x).getD 3 .any=.sl (x.ψ.map dK):=rfl
def Y6(x:TNode):(bY x).getD 4 .any=.v (.int .i64 x.π.kind):=rfl
def Yg(x:TNode):(bY x).getD 5 .any=.v (.int .i64 x.π.a):=rfl
def XU(x:TNode):(bY x).getD 6 .any=.v (.int .i64 x.π.b):=rfl
def V0(x:TNode):(bY x).getD 7 .any=.v (.int .i64 x.π.n):=rfl
def Xt(x:TNode):(bY x).getD 8 .any=.v (.int .i64 x.yes):=rfl
def VX(x:TNode):(bY x).getD 9 .any=.v (.int .i64 x.no):=rfl
def QR(x:TNode):(bY x).take 10=bY x:=rfl
def Jp(x:TNode):((bY x).drop 4).take 4=aO x.π:=rfl
structure Proof where
 noPlan:Bool
 plan:Plan
 nodes:List TNode
 deriving DecidableEq
def iC(x:Proof):List AV:=[.v (.bool x.noPlan),.sl (x.plan.x9.map bJ),.sl (x.plan.y9.map aP),.sl (x.nodes.map bY)]
def Gs(x:Proof):(iC x).length=4:=rfl
def Yv(x:Proof):(iC x).getD 0 .any=.v (.bool x.noPlan):=rfl
def XR(x:Proof):(iC x).getD 1 .any=.sl (x.plan.x9.map bJ):=rfl
def Ym(x:Proof):(iC x).getD 2 .any=.sl (x.plan.y9.map aP):=rfl
def Yy(x:Proof):(iC x).getD 3 .any=.sl (x.nodes.map bY):=rfl
def QN(x:Proof):(iC x).take 4=iC x:=rfl
def M7(x:Proof):((iC x).drop 1).take 2=mA x.plan:=rfl
structure Sheet where
 rest:Bool
 ω:Int
 times:List TimeT
 stop:Int
 o7:Int
 deriving DecidableEq
def bT(x:Sheet):List AV:=[.v (.bool x.rest),.v (.int .i64 x.ω),.sl (x.times.map TU),.v (.int .i64 x.stop),.v (.int .i64 x.o7)]
def gR(x:Sheet):(bT x).length=5:=rfl
def Yq(x:Sheet):(bT x).getD 0 .any=.v (.bool x.rest):=rfl
def Wf(x:Sheet):(bT x).getD 1 .any=.v (.int .i64 x.ω):=rfl
def YO(x:Sheet):(bT x).getD 2 .any=.sl (x.times.map TU):=rfl
def Ff(x:Sheet):(bT x).getD 3 .any=.v (.int .i64 x.stop):=rfl
def EM(x:Sheet):(bT x).getD 4 .any=.v (.int .i64 x.o7):=rfl
def A0(x:Sheet):(bT x).take 5=bT x:=rfl
attribute [go_sem] KX arJ Ue agH X8 apB gH Xj Xb Gh jR ajX arI amU aqX arQ anW Xv Ma Qj Qz KK kD Xx V1 V5 Wh Wd Wn W6 Wi Ww Wv UI T2 TT SQ Qc iP aeM ahZ aeA agZ Vg nI Yk XO Wc XN WI X3 WG Yr Xr YV RZ SD Vr Vv Tu Tn PY MT MG oN ahI aeY UJ Jg Mt M9 MI MK Mw ME Jk Jn dG VS YE PD nD Xl WV YX Xz PX TR aiJ aiQ RT Qh Y0 YW QC lG My MW MM MA Jw dB UZ Uh Tb Sy UC T6 Vo MP Jj cP Bd A7 BQ Ba vM xZ apQ aoN atE XX rH ahU ahR agG U8 yV agV agL SZ lO YT X7 XG WW Y6 Yg XU V0 Xt VX QR Jp Gs Yv XR Ym Yy QN M7 gR Yq Wf YO Ff EM A0
def aC{α:Type}{f:α->List AV}{l:List α}{k:Nat}{x:α}(h:l[k]?=some x):(l.map f).getD k []=f x:=by simp[List.getD,h]
def awD{α:Type}(f:α->List AV)(l:List α):(l.map f).length=l.length:=List.length_map f
def aiM(n:Nat):((n:Int)).toNat=n:=Int.toNat_natCast n
attribute [go_sem] awD aiM
theorem aW{n:Int}(h: -9223372036854775808<=n/\n<=9223372036854775807):IntKind.i64.wrap n=n:=IntWalk.i64_in n h
end Go.Aw.D
end
